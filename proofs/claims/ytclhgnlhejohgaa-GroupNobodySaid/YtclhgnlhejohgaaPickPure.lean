/- Who gets a message: the plain part. -/
namespace Go.Proofs.Ytclhgnlhejohgaa.PickP

theorem snocInd {α : Type} {P : List α → Prop} (h0 : P []) (hs : ∀ l x, P l → P (l ++ [x])) : ∀ l, P l := by
  intro l
  have key : ∀ r : List α, P r.reverse := by
    intro r
    induction r with
    | nil => exact h0
    | cons x r ih => rw [List.reverse_cons]; exact hs _ _ ih
  have := key l.reverse
  rwa [List.reverse_reverse] at this
/-! ### the first of the least -/
def lesser {α : Type} (b : Option (α × Int)) (x : α × Int) : Option (α × Int) := match b with | none => some x | some y => if x.2 < y.2 then some x else some y
def best {α : Type} (l : List (α × Int)) : Option (α × Int) := l.foldl lesser none
theorem best_snoc {α : Type} (l : List (α × Int)) (x : α × Int) : best (l ++ [x]) = lesser (best l) x := by simp [best]
theorem best_nil {α : Type} : best ([] : List (α × Int)) = none := rfl
theorem best_some {α : Type} (l : List (α × Int)) (h : l ≠ []) : ∃ y, best l = some y := by
  rcases List.eq_nil_or_concat l with rfl | ⟨l', x, rfl⟩
  · exact absurd rfl h
  · rw [List.concat_eq_append, best_snoc]
    cases best l' with
    | none => exact ⟨_, rfl⟩
    | some y =>
      by_cases h : x.2 < y.2
      · exact ⟨x, by simp [lesser, h]⟩
      · exact ⟨y, by simp [lesser, h]⟩
/-- Where it stands: all ahead are greater, none behind is less. -/
def IsBest {α : Type} (l : List (α × Int)) (y : α × Int) : Prop := ∃ a b, l = a ++ y :: b ∧ (∀ x ∈ a, y.2 < x.2) ∧ ∀ x ∈ b, y.2 ≤ x.2
theorem fold_stays {α : Type} (y : α × Int) (b : List (α × Int)) (h : ∀ x ∈ b, y.2 ≤ x.2) : b.foldl lesser (some y) = some y := by
  induction b with
  | nil => rfl
  | cons x b ih =>
    have h1 := h x (by simp)
    have : lesser (some y) x = some y := by unfold lesser; simp only; rw [if_neg (by omega)]
    rw [List.foldl_cons, this]
    exact ih fun z hz => h z (by simp [hz])
theorem isBest_best {α : Type} {l : List (α × Int)} {y : α × Int} (h : IsBest l y) : best l = some y := by
  obtain ⟨a, b, rfl, ha, hb⟩ := h
  unfold best
  rw [List.foldl_append, List.foldl_cons]
  have hl : lesser (a.foldl lesser none) y = some y := by
    cases hx : a.foldl lesser none with
    | none => rfl
    | some z =>
      have hz : z ∈ a := by
        clear hb
        have : ∀ (l : List (α × Int)) (z : α × Int), best l = some z → z ∈ l := by
          refine snocInd ?_ ?_
          · intro z h; cases h
          · intro l x ih z h
            rw [best_snoc] at h
            cases hb : best l with
            | none => rw [hb] at h; unfold lesser at h; simp at h; simp [h]
            | some q =>
              rw [hb] at h
              unfold lesser at h
              simp only at h
              split at h
              · simp at h; simp [h]
              · have : q = z := by simpa using h
                subst this
                simp [ih _ hb]
        exact this a z hx
      unfold lesser
      simp only
      rw [if_pos (ha z hz)]
  rw [hl]
  exact fold_stays y b hb
theorem best_isBest {α : Type} (l : List (α × Int)) {y : α × Int} (h : best l = some y) : IsBest l y := by
  revert y
  refine snocInd (P := fun l => ∀ {y : α × Int}, best l = some y → IsBest l y) ?_ ?_ l
  · intro y h; cases h
  · intro l x ih y h
    rw [best_snoc] at h
    cases hb : best l with
    | none =>
      rw [hb] at h
      have hn : l = [] := by
        rcases List.eq_nil_or_concat l with h | h
        · exact h
        · obtain ⟨z, hz⟩ := best_some l (by obtain ⟨a, b, rfl⟩ := h; simp)
          rw [hz] at hb; cases hb
      subst hn
      have : x = y := by simpa [lesser] using h
      subst this
      exact ⟨[], [], rfl, by simp, by simp⟩
    | some q =>
      obtain ⟨a, b, rfl, h1, h2⟩ := ih hb
      rw [hb] at h
      unfold lesser at h
      simp only at h
      split at h
      · rename_i hlt
        have : x = y := by simpa using h
        subst this
        refine ⟨a ++ q :: b, [], rfl, ?_, by simp⟩
        intro z hz
        rcases List.mem_append.1 hz with hz | hz
        · have := h1 z hz; omega
        · rcases List.mem_cons.1 hz with rfl | hz
          · exact hlt
          · have := h2 z hz; omega
      · rename_i hlt
        have : q = y := by simpa using h
        subst this
        refine ⟨a, b ++ [x], by simp, h1, ?_⟩
        intro z hz
        rcases List.mem_append.1 hz with hz | hz
        · exact h2 z hz
        · have : z = x := by simpa using hz
          subst this; omega
theorem best_mem {α : Type} {l : List (α × Int)} {y : α × Int} (h : best l = some y) : y ∈ l := by
  obtain ⟨a, b, rfl, _⟩ := best_isBest l h; simp
theorem best_filter {α : Type} {l : List (α × Int)} {y : α × Int} (h : best l = some y) (p : α × Int → Bool) (hp : p y = true) : best (l.filter p) = some y := by
  obtain ⟨a, b, rfl, h1, h2⟩ := best_isBest l h
  refine isBest_best ⟨a.filter p, b.filter p, ?_, ?_, ?_⟩
  · rw [List.filter_append, List.filter_cons, if_pos hp]
  · exact fun x hx => h1 x (List.mem_filter.1 hx).1
  · exact fun x hx => h2 x (List.mem_filter.1 hx).1

/-! ### round and round -/
def has (l : List ByteArray) (s : ByteArray) : Bool := l.any fun x => decide (x = s)
theorem has_iff (l : List ByteArray) (s : ByteArray) : has l s = true ↔ s ∈ l := by simp [has]
def from_ (all : List ByteArray) (last : ByteArray) : Nat := match all.findIdx? (fun s => decide (s = last)) with | some i => i + 1 | none => 0
def turn (all : List ByteArray) (f : Nat) : List ByteArray := (List.range all.length).map fun k => all.getD ((f + k) % all.length) ByteArray.empty
def robin (all free : List ByteArray) (last : ByteArray) : ByteArray := ((turn all (from_ all last)).find? (fun s => has free s)).getD ByteArray.empty
/-! ### in turn -/
def ti (n f : Nat) : List Nat := (List.range n).map fun k => (f + k) % n
theorem ti_length (n f : Nat) : (ti n f).length = n := by simp [ti]
theorem ti_get (n f k : Nat) (h : k < n) : (ti n f)[k]? = some ((f + k) % n) := by simp [ti, h]
theorem ti_drop (n f : Nat) (hf : f ≤ n) : ti n f = (List.range n).drop f ++ (List.range n).take f := by
  apply List.ext_getElem?
  intro t
  by_cases ht : t < n
  · rw [ti_get n f t ht]
    by_cases h1 : t < n - f
    · rw [List.getElem?_append_left (by simp; omega), List.getElem?_drop, List.getElem?_range (by omega), Nat.mod_eq_of_lt (by omega)]
    · rw [List.getElem?_append_right (by simp; omega), List.getElem?_take, if_pos (by simp; omega), List.getElem?_range (by simp; omega)]
      congr 1
      simp
      rw [Nat.mod_eq_sub_mod (by omega), Nat.mod_eq_of_lt (by omega)]
      omega
  · rw [List.getElem?_eq_none (by rw [ti_length]; omega), List.getElem?_eq_none (by simp; omega)]
theorem ti_perm (n f : Nat) (hf : f ≤ n) : (ti n f).Perm (List.range n) := by
  rw [ti_drop n f hf]
  exact List.perm_append_comm.trans (by rw [List.take_append_drop])
theorem ti_turn {n f k i : Nat} (hk : k < n) (hi : i = (f + k) % n) : ti n (i + 1) = (ti n f).drop (k + 1) ++ (ti n f).take k ++ [i] := by
  apply List.ext_getElem?
  intro t
  by_cases ht : t < n
  · rw [ti_get n _ t ht]
    have e : (i + 1 + t) % n = (f + k + 1 + t) % n := by
      rw [hi, Nat.add_assoc, Nat.mod_add_mod]; congr 1; omega
    rw [e]
    by_cases h1 : t < n - k - 1
    · rw [List.append_assoc, List.getElem?_append_left (by simp [ti_length]; omega), List.getElem?_drop, ti_get n f _ (by omega)]
      congr 2; omega
    · by_cases h2 : t < n - 1
      · rw [List.append_assoc, List.getElem?_append_right (by simp [ti_length]; omega), List.getElem?_append_left (by simp [ti_length]; omega), List.getElem?_take, if_pos (by simp [ti_length]; omega), ti_get n f _ (by simp [ti_length]; omega)]
        congr 1
        simp [ti_length]
        have : f + k + 1 + t = f + (t - (n - (k + 1))) + n := by omega
        rw [this, Nat.add_mod_right]
      · rw [List.getElem?_append_right (by simp [ti_length]; omega)]
        have h3 : t - ((ti n f).drop (k + 1) ++ (ti n f).take k).length = 0 := by simp [ti_length]; omega
        rw [h3]
        simp
        have : f + k + 1 + t = f + k + n := by omega
        rw [this, Nat.add_mod_right, hi]
  · rw [List.getElem?_eq_none (by rw [ti_length]; omega), List.getElem?_eq_none (by simp [ti_length]; omega)]
/-- Those that are free, from a place on. -/
def fr (b : Nat → Bool) (n f : Nat) : List Nat := (ti n f).filter b
theorem fr_next {b : Nat → Bool} {n f i : Nat} {B : List Nat} (h : fr b n f = i :: B) : fr b n (i + 1) = B ++ [i] := by
  unfold fr at h
  obtain ⟨l1, l2, h1, h2, h3⟩ : ∃ l1 l2, ti n f = l1 ++ i :: l2 ∧ (∀ x ∈ l1, b x = false) ∧ l2.filter b = B ∧ b i = true := by
    generalize ti n f = l at h
    clear f
    induction l with
    | nil => simp at h
    | cons x l ih =>
      by_cases hb : b x = true
      · rw [List.filter_cons, if_pos hb] at h
        injection h with h4 h5
        subst h4
        exact ⟨[], l, rfl, by simp, h5, hb⟩
      · rw [List.filter_cons, if_neg hb] at h
        obtain ⟨l1, l2, h4, h5, h6⟩ := ih h
        exact ⟨x :: l1, l2, by rw [h4]; rfl, by simp; exact ⟨by simpa using hb, h5⟩, h6⟩
  have hk : l1.length < n := by have := congrArg List.length h1; rw [ti_length] at this; simp at this; omega
  have hi : i = (f + l1.length) % n := by
    have := ti_get n f l1.length hk
    rw [h1] at this
    simpa using this
  unfold fr
  rw [ti_turn hk hi, h1]
  have e1 : l1.filter b = [] := by rw [List.filter_eq_nil_iff]; intro x hx; simp [h2 x hx]
  have e2 : (l1 ++ i :: l2).drop (l1.length + 1) = l2 := by simp [List.drop_append]
  have e3 : (l1 ++ i :: l2).take l1.length = l1 := by simp
  rw [e2, e3, List.filter_append, List.filter_append, h3.1, e1]
  simp [h3.2]

def Distinct (all : List ByteArray) : Prop := ∀ i k, i < all.length → k < i → all.getD k ByteArray.empty ≠ all.getD i ByteArray.empty
theorem Distinct.inj {all : List ByteArray} (h : Distinct all) {i k : Nat} (hi : i < all.length) (hk : k < all.length) (e : all.getD i ByteArray.empty = all.getD k ByteArray.empty) : i = k := by
  rcases Nat.lt_trichotomy i k with h1 | h1 | h1
  · exact absurd e (h k i hk h1)
  · exact h1
  · exact absurd e.symm (h i k hi h1)
/-- Those of a list that bits tell. -/
def sel (all : List ByteArray) (b : Nat → Bool) (k : Nat) : List ByteArray := ((List.range k).filter b).map fun i => all.getD i ByteArray.empty
theorem sel_succ (all : List ByteArray) (b : Nat → Bool) (k : Nat) : sel all b (k + 1) = if b k then sel all b k ++ [all.getD k ByteArray.empty] else sel all b k := by
  unfold sel
  rw [List.range_succ, List.filter_append]
  by_cases h : b k = true <;> simp [h]
theorem sel_contains {all : List ByteArray} (h : Distinct all) (b : Nat → Bool) {i : Nat} (hi : i < all.length) : has (sel all b all.length) (all.getD i ByteArray.empty) = b i := by
  rw [Bool.eq_iff_iff, has_iff]
  unfold sel
  simp only [List.mem_map, List.mem_filter, List.mem_range]
  constructor
  · rintro ⟨k, ⟨hk, hb⟩, e⟩
    have := h.inj hk hi e
    subst this; exact hb
  · intro hb; exact ⟨i, ⟨hi, hb⟩, rfl⟩
theorem from_le (all : List ByteArray) (last : ByteArray) : from_ all last ≤ all.length := by
  unfold from_
  split
  · rename_i i h
    have := (List.findIdx?_eq_some_iff_getElem.1 h).1
    omega
  · omega
theorem from_at {all : List ByteArray} (h : Distinct all) {i : Nat} (hi : i < all.length) : from_ all (all.getD i ByteArray.empty) = i + 1 := by
  have : all.findIdx? (fun s => decide (s = all.getD i ByteArray.empty)) = some i := by
    rw [List.findIdx?_eq_some_iff_getElem]
    refine ⟨hi, by simp [hi], fun j hj => ?_⟩
    have hjl : j < all.length := by omega
    have := h i j hi hj
    simpa [hjl] using this
  unfold from_
  rw [this]
theorem robin_sel {all : List ByteArray} (h : Distinct all) (b : Nat → Bool) (last : ByteArray) :
    robin all (sel all b all.length) last = match fr b all.length (from_ all last) with | [] => ByteArray.empty | i :: _ => all.getD i ByteArray.empty := by
  unfold robin turn fr
  have e : ((List.range all.length).map fun k => all.getD ((from_ all last + k) % all.length) ByteArray.empty) = (ti all.length (from_ all last)).map fun i => all.getD i ByteArray.empty := by
    unfold ti; rw [List.map_map]; rfl
  rw [e, List.find?_map]
  have e2 : (ti all.length (from_ all last)).find? ((fun s => has (sel all b all.length) s) ∘ fun i => all.getD i ByteArray.empty) = ((ti all.length (from_ all last)).filter b).head? := by
    rw [List.head?_filter]
    have hlt : ∀ x ∈ ti all.length (from_ all last), x < all.length := fun x hx => by simpa using (ti_perm _ _ (from_le all last)).mem_iff.1 hx
    generalize ti all.length (from_ all last) = l at hlt
    induction l with
    | nil => rfl
    | cons x l ih =>
      rw [List.find?_cons, List.find?_cons, ih fun y hy => hlt y (by simp [hy])]
      simp only [Function.comp]
      rw [sel_contains h b (hlt x (by simp))]
  rw [e2]
  cases (ti all.length (from_ all last)).filter b <;> rfl
/-- How far the turns are. -/
def Going (all : List ByteArray) (b : Nat → Bool) (got : List ByteArray) (last : ByteArray) : Prop :=
  ∃ A B : List Nat, (A ++ B).Nodup ∧ (A ++ B).length = (sel all b all.length).length ∧ (∀ i ∈ A ++ B, i < all.length ∧ b i = true) ∧ got = A.map (fun i => all.getD i ByteArray.empty) ∧ fr b all.length (from_ all last) = B ++ A
theorem Going.start (all : List ByteArray) (b : Nat → Bool) (last : ByteArray) : Going all b [] last := by
  have hp := ti_perm all.length _ (from_le all last)
  refine ⟨[], fr b all.length (from_ all last), ?_, ?_, ?_, rfl, by simp⟩
  · simp only [List.nil_append]
    exact List.Nodup.sublist List.filter_sublist (hp.nodup_iff.2 List.nodup_range)
  · simp only [List.nil_append, fr, sel, List.length_map]
    exact (hp.filter b).length_eq
  · intro i hi
    simp only [List.nil_append, fr, List.mem_filter] at hi
    exact ⟨by simpa using hp.mem_iff.1 hi.1, hi.2⟩
theorem Going.step {all : List ByteArray} (h : Distinct all) {b : Nat → Bool} {got : List ByteArray} {last : ByteArray} (hg : Going all b got last) (hl : got.length < (sel all b all.length).length) :
    robin all (sel all b all.length) last ∈ sel all b all.length ∧ robin all (sel all b all.length) last ∉ got ∧ Going all b (got ++ [robin all (sel all b all.length) last]) (robin all (sel all b all.length) last) := by
  obtain ⟨A, B, h1, h2, h3, rfl, h5⟩ := hg
  cases B with
  | nil => simp at h2 hl; omega
  | cons i B =>
    have hr := robin_sel h b last
    rw [h5] at hr
    simp only [List.cons_append] at hr h5
    obtain ⟨hi, hb⟩ := h3 i (by simp)
    rw [hr]
    refine ⟨(has_iff _ _).1 ((sel_contains h b hi).trans hb), ?_, A ++ [i], B, by simpa using h1, by simpa using h2, by simpa using h3, by simp, ?_⟩
    · intro hc
      rw [List.mem_map] at hc
      obtain ⟨k, hk, e⟩ := hc
      have := h.inj (h3 k (by simp [hk])).1 hi e
      subst this
      rw [List.nodup_append] at h1
      exact h1.2.2 k hk k (by simp) rfl
    · rw [from_at h hi, fr_next h5]
      simp
theorem robin_none (all : List ByteArray) (last : ByteArray) : robin all [] last = ByteArray.empty := by
  unfold robin
  rw [List.find?_eq_none.2 (by simp [has])]
  rfl


theorem turn_get (all : List ByteArray) (f k : Nat) (h : k < all.length) : (turn all f)[k]? = some (all.getD ((f + k) % all.length) ByteArray.empty) := by simp [turn, h]
theorem robin_at {all free : List ByteArray} {last : ByteArray} {k : Nat} (hk : k < all.length) (h0 : ∀ j, j < k → has free (all.getD ((from_ all last + j) % all.length) ByteArray.empty) = false)
    (h1 : has free (all.getD ((from_ all last + k) % all.length) ByteArray.empty) = true) : robin all free last = all.getD ((from_ all last + k) % all.length) ByteArray.empty := by
  have hl : (turn all (from_ all last)).length = all.length := by simp [turn]
  have hg := turn_get all (from_ all last) k hk
  have : (turn all (from_ all last)).find? (fun s => has free s) = some (all.getD ((from_ all last + k) % all.length) ByteArray.empty) := by
    rw [List.find?_eq_some_iff_getElem]
    refine ⟨h1, k, by omega, ?_, fun j hj => ?_⟩
    · rw [List.getElem?_eq_getElem (by omega)] at hg
      exact Option.some.inj hg
    · have hg' := turn_get all (from_ all last) j (by omega)
      rw [List.getElem?_eq_getElem (by omega)] at hg'
      rw [Option.some.inj hg', h0 j hj]; rfl
  unfold robin
  rw [this]; rfl
theorem robin_end {all free : List ByteArray} {last : ByteArray} (h0 : ∀ j, j < all.length → has free (all.getD ((from_ all last + j) % all.length) ByteArray.empty) = false) : robin all free last = ByteArray.empty := by
  have : (turn all (from_ all last)).find? (fun s => has free s) = none := by
    rw [List.find?_eq_none]
    intro x hx
    simp only [turn, List.mem_map, List.mem_range] at hx
    obtain ⟨k, hk, rfl⟩ := hx
    rw [h0 k hk]; simp
  unfold robin
  rw [this]; rfl
theorem from_some {all : List ByteArray} {last : ByteArray} {i : Nat} (hi : i < all.length) (h : all.getD i ByteArray.empty = last) (h0 : ∀ j, j < i → all.getD j ByteArray.empty ≠ last) : from_ all last = i + 1 := by
  have : all.findIdx? (fun s => decide (s = last)) = some i := by
    rw [List.findIdx?_eq_some_iff_getElem]
    refine ⟨hi, by simpa [hi] using h, fun j hj => ?_⟩
    have hjl : j < all.length := by omega
    simpa [hjl] using h0 j hj
  unfold from_; rw [this]
theorem from_none {all : List ByteArray} {last : ByteArray} (h0 : ∀ j, j < all.length → all.getD j ByteArray.empty ≠ last) : from_ all last = 0 := by
  have : all.findIdx? (fun s => decide (s = last)) = none := by
    rw [List.findIdx?_eq_none_iff]
    intro x hx
    obtain ⟨j, hj, rfl⟩ := List.getElem_of_mem hx
    simpa [hj] using h0 j hj
  unfold from_; rw [this]
theorem has_take_succ (l : List ByteArray) (s : ByteArray) (k : Nat) (h : k < l.length) : has (l.take (k + 1)) s = (has (l.take k) s || decide (l[k] = s)) := by
  unfold has; rw [List.take_succ_eq_append_getElem h, List.any_append]; simp only [List.any_cons, List.any_nil, Bool.or_false]

/-! ### the first of the least, by its place -/
def bestI (f : Nat → Int) (k : Nat) : Option (Nat × Int) := best ((List.range k).map fun i => (i, f i))
theorem bestI_zero (f : Nat → Int) : bestI f 0 = none := rfl
theorem bestI_succ (f : Nat → Int) (k : Nat) : bestI f (k + 1) = lesser (bestI f k) (k, f k) := by
  unfold bestI; rw [List.range_succ, List.map_append, List.map_singleton, best_snoc]
theorem bestI_some (f : Nat → Int) {k : Nat} (h : 0 < k) : ∃ y, bestI f k = some y ∧ y.1 < k ∧ y.2 = f y.1 := by
  obtain ⟨y, hy⟩ := best_some ((List.range k).map fun i => (i, f i)) (by simp; omega)
  have hm := best_mem hy
  simp only [List.mem_map, List.mem_range] at hm
  obtain ⟨i, hi, rfl⟩ := hm
  exact ⟨_, hy, hi, rfl⟩
theorem bestI_congr {f g : Nat → Int} {k : Nat} (h : ∀ i, i < k → f i = g i) : bestI f k = bestI g k := by
  unfold bestI
  congr 1
  apply List.map_congr_left
  intro i hi
  rw [h i (by simpa using hi)]
theorem best_map {α β : Type} (g : α → β) (l : List (α × Int)) : best (l.map fun x => (g x.1, x.2)) = (best l).map fun x => (g x.1, x.2) := by
  revert l
  refine snocInd ?_ ?_
  · rfl
  · intro l x ih
    rw [List.map_append, List.map_singleton, best_snoc, best_snoc, ih]
    cases best l with
    | none => rfl
    | some y =>
      simp only [Option.map_some, lesser]
      split <;> rfl
/-- The text that is chosen. -/
def pickBy (l : List ByteArray) (f : Nat → Int) : ByteArray := match bestI f l.length with | some y => l.getD y.1 ByteArray.empty | none => ByteArray.empty
theorem range_map (l : List ByteArray) (g : ByteArray → Int) : ((List.range l.length).map fun i => ((l.getD i ByteArray.empty, g (l.getD i ByteArray.empty)) : ByteArray × Int)) = l.map fun s => (s, g s) := by
  apply List.ext_getElem
  · simp
  · intro i h1 h2
    have : i < l.length := by simpa using h2
    simp [this]
/-- Where the number hangs on the text alone. -/
theorem pickBy_map (l : List ByteArray) (g : ByteArray → Int) : pickBy l (fun i => g (l.getD i ByteArray.empty)) = match best (l.map fun s => (s, g s)) with | some y => y.1 | none => ByteArray.empty := by
  have h := best_map (fun i => l.getD i ByteArray.empty) ((List.range l.length).map fun i => (i, g (l.getD i ByteArray.empty)))
  rw [List.map_map] at h
  rw [← range_map l g]
  have e : (List.map ((fun x : Nat × Int => (l.getD x.1 ByteArray.empty, x.2)) ∘ fun i => (i, g (l.getD i ByteArray.empty))) (List.range l.length)) = (List.range l.length).map fun i => (l.getD i ByteArray.empty, g (l.getD i ByteArray.empty)) := rfl
  rw [e] at h
  rw [h]
  unfold pickBy bestI
  cases best ((List.range l.length).map fun i => (i, g (l.getD i ByteArray.empty))) <;> rfl
/-- Of a key: the one of the greatest rank. -/
def hash (rk : ByteArray → Int) (l : List ByteArray) : ByteArray := pickBy l (fun i => -rk (l.getD i ByteArray.empty))
theorem hash_best (rk : ByteArray → Int) (l : List ByteArray) : hash rk l = match best (l.map fun s => (s, -rk s)) with | some y => y.1 | none => ByteArray.empty := pickBy_map l (fun s => -rk s)
theorem best_fst {rk : ByteArray → Int} {l : List ByteArray} {y : ByteArray × Int} (h : best (l.map fun s => (s, -rk s)) = some y) : y.1 ∈ l ∧ y = (y.1, -rk y.1) := by
  have := best_mem h
  rw [List.mem_map] at this
  obtain ⟨s, hs, rfl⟩ := this
  exact ⟨hs, rfl⟩
theorem hash_mem (rk : ByteArray → Int) {l : List ByteArray} (h : l ≠ []) : hash rk l ∈ l := by
  rw [hash_best]
  obtain ⟨y, hy⟩ := best_some (l.map fun s => (s, -rk s)) (by simpa using h)
  rw [hy]
  exact (best_fst hy).1
theorem hash_with (rk : ByteArray → Int) (l : List ByteArray) (one : ByteArray) : (hash rk (l ++ [one]) = hash rk l ∨ hash rk (l ++ [one]) = one) ∧ (l ≠ [] → hash rk (l ++ [one]) ≠ hash rk l → rk (hash rk l) < rk one) := by
  rw [hash_best, hash_best, List.map_append, List.map_singleton, best_snoc]
  cases hb : best (l.map fun s => (s, -rk s)) with
  | none =>
    refine ⟨.inr rfl, fun h => ?_⟩
    obtain ⟨y, hy⟩ := best_some (l.map fun s => (s, -rk s)) (by simpa using h)
    rw [hy] at hb; cases hb
  | some y =>
    have h2 := (best_fst hb).2
    have h3 : y.2 = -rk y.1 := by rw [h2]
    by_cases hlt : -rk one < y.2
    · have e : lesser (some y) (one, -rk one) = some (one, -rk one) := by simp [lesser, hlt]
      rw [e]
      refine ⟨.inr rfl, fun _ _ => ?_⟩
      simp only
      omega
    · have e : lesser (some y) (one, -rk one) = some y := by simp [lesser, hlt]
      rw [e]
      exact ⟨.inl rfl, fun _ h => absurd rfl h⟩
theorem hash_without (rk : ByteArray → Int) {l : List ByteArray} (h : l ≠ []) (one : ByteArray) (hne : hash rk l ≠ one) : hash rk (l.filter fun s => !decide (s = one)) = hash rk l := by
  obtain ⟨y, hy⟩ := best_some (l.map fun s => (s, -rk s)) (by simpa using h)
  have e1 : hash rk l = y.1 := by rw [hash_best, hy]
  have hf := best_filter hy (fun x => !decide (x.1 = one)) (by rw [e1] at hne; simp [hne])
  rw [hash_best]
  have e2 : (l.map fun s => ((s, -rk s) : ByteArray × Int)).filter (fun x => !decide (x.1 = one)) = (l.filter fun s => !decide (s = one)).map fun s => (s, -rk s) := by
    rw [List.filter_map]; rfl
  rw [e2] at hf
  rw [hf, e1]
def least (free : List ByteArray) (counts : List Int) : ByteArray := pickBy free (fun i => counts.getD i 0)
end Go.Proofs.Ytclhgnlhejohgaa.PickP
