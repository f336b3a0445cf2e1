/- Lanes of keys: the plain part. An item is its topic, and with whom it is (nothing: it waits). -/
set_option linter.unusedVariables false
set_option linter.unusedSimpArgs false
namespace Go.Proofs.Ytclhgnlhejohgaa.LaneP
abbrev It := ByteArray × ByteArray
abbrev No : ByteArray := ByteArray.empty

def owner (l : List It) (key : ByteArray) : Option ByteArray := (l.find? fun x => decide (x.1 = key) && !decide (x.2 = No)).map Prod.snd
/-- Is a topic among those that wait? -/
def waits (l : List It) (t : ByteArray) : Bool := l.any fun x => decide (x.2 = No) && decide (x.1 = t)
def headN (l : List It) : Nat → List Nat
  | 0 => []
  | k + 1 => match l[k]? with
    | some x => if x.2 = No ∧ waits (l.take k) x.1 = false then headN l k ++ [k] else headN l k
    | none => headN l k
def head (l : List It) : List Nat := headN l l.length
/-- Does an item at place k let the one at 'at' go? -/
def lets (l : List It) (at_ : Nat) (t client : ByteArray) (k : Nat) (x : It) : Bool := !decide (x.1 = t) || !((decide (k < at_) && decide (x.2 = No)) || (!decide (x.2 = No) && !decide (x.2 = client)))
def may (l : List It) (at_ : Int) (client : ByteArray) : Bool :=
  match (if 0 ≤ at_ then l[at_.toNat]? else none) with
  | none => false
  | some y => decide (y.2 = No) && (List.range l.length).all fun k => match l[k]? with | some x => lets l at_.toNat y.1 client k x | none => true
def agree (x y : It) : Bool := !decide (x.1 = y.1) || decide (x.2 = No) || decide (y.2 = No) || decide (x.2 = y.2)
/-- Are the first n lanes as they must be? -/
def soundN (l : List It) : Nat → Bool
  | 0 => true
  | n + 1 => soundN l n && match l[n]? with | some x => (l.take n).all fun y => agree x y | none => true
def sound (l : List It) : Bool := soundN l l.length
def putAt (l : List It) (k : Nat) (client : ByteArray) : List It := match l[k]? with | some x => l.set k (x.1, client) | none => l

theorem waits_iff (l : List It) (t : ByteArray) : waits l t = true ↔ ∃ x ∈ l, x.2 = No ∧ x.1 = t := by simp [waits]
theorem may_iff (l : List It) (k : Nat) (client : ByteArray) :
    may l k client = true ↔ ∃ y, l[k]? = some y ∧ y.2 = No ∧ ∀ i x, l[i]? = some x → x.1 = y.1 → ¬ (i < k ∧ x.2 = No) ∧ (x.2 = No ∨ x.2 = client) := by
  unfold may
  rw [if_pos (by omega)]
  simp only [Int.toNat_natCast]
  cases hk : l[k]? with
  | none => simp
  | some y =>
    simp only [Bool.and_eq_true, decide_eq_true_eq, List.all_eq_true, List.mem_range, Option.some.injEq, exists_eq_left']
    refine and_congr_right fun _ => ⟨fun h i x hx ht => ?_, fun h i hi => ?_⟩
    · have := h i (List.getElem?_eq_some_iff.1 hx).1
      rw [hx] at this
      simp [lets, ht] at this
      exact ⟨fun hh => by
        rcases this.1 with h1 | h1
        · omega
        · exact h1 hh.2, this.2⟩
    · have hx := List.getElem?_eq_getElem hi
      rw [hx]
      by_cases ht : l[i].1 = y.1
      · have := h i _ hx ht
        simp [lets, ht]
        refine ⟨?_, this.2⟩
        by_cases h2 : l[i].2 = No
        · exact .inl (Nat.le_of_not_lt fun h1 => this.1 ⟨h1, h2⟩)
        · exact .inr h2
      · simp [lets, ht]
theorem may_neg (l : List It) (a : Int) (client : ByteArray) (h : may l a client = true) : 0 ≤ a ∧ a.toNat < l.length := by
  unfold may at h
  by_cases h0 : 0 ≤ a
  · rw [if_pos h0] at h
    cases hk : l[a.toNat]? with
    | none => rw [hk] at h; simp at h
    | some y => exact ⟨h0, (List.getElem?_eq_some_iff.1 hk).1⟩
  · rw [if_neg h0] at h; simp at h
theorem may_cast {l : List It} {a : Int} {client : ByteArray} (h : may l a client = true) : ∃ k : Nat, a = k ∧ k < l.length := ⟨a.toNat, by have := may_neg l a client h; omega, (may_neg l a client h).2⟩
theorem soundN_iff (l : List It) (n : Nat) (hn : n ≤ l.length) : soundN l n = true ↔ ∀ i j x y, i < n → j < i → l[i]? = some x → l[j]? = some y → agree x y = true := by
  induction n with
  | zero => simp [soundN]
  | succ n ih =>
    have hx := List.getElem?_eq_getElem (show n < l.length by omega)
    simp only [soundN, Bool.and_eq_true, ih (by omega), hx, List.all_eq_true]
    constructor
    · rintro ⟨h1, h2⟩ i j x y hi hj h3 h4
      by_cases e : i = n
      · subst e
        rw [hx] at h3
        injection h3 with h3
        subst h3
        refine h2 y ?_
        rw [List.mem_take_iff_getElem]
        obtain ⟨h5, h6⟩ := List.getElem?_eq_some_iff.1 h4
        exact ⟨j, by omega, h6⟩
      · exact h1 i j x y (by omega) hj h3 h4
    · intro h
      refine ⟨fun i j x y hi hj h3 h4 => h i j x y (by omega) hj h3 h4, fun y hy => ?_⟩
      rw [List.mem_take_iff_getElem] at hy
      obtain ⟨j, hj, rfl⟩ := hy
      exact h n j _ _ (by omega) (by omega) hx (List.getElem?_eq_getElem (by omega))
theorem agree_iff (x y : It) : agree x y = true ↔ (x.1 = y.1 → x.2 ≠ No → y.2 ≠ No → x.2 = y.2) := by
  unfold agree
  by_cases h1 : x.1 = y.1 <;> by_cases h2 : x.2 = No <;> by_cases h3 : y.2 = No <;> simp [h1, h2, h3]
theorem sound_iff (l : List It) : sound l = true ↔ ∀ (i j : Nat) (x y : It), l[i]? = some x → l[j]? = some y → x.1 = y.1 → x.2 ≠ No → y.2 ≠ No → x.2 = y.2 := by
  unfold sound
  rw [soundN_iff l _ (Nat.le_refl _)]
  constructor
  · intro h i j x y h1 h2
    have hi := (List.getElem?_eq_some_iff.1 h1).1
    have hj := (List.getElem?_eq_some_iff.1 h2).1
    rcases Nat.lt_trichotomy i j with hlt | rfl | hlt
    · intro a b c; exact ((agree_iff _ _).1 (h j i y x hj hlt h2 h1) a.symm c b).symm
    · intro _ _ _; rw [h1] at h2; injection h2 with h2; rw [h2]
    · exact (agree_iff _ _).1 (h i j x y hi hlt h1 h2)
  · intro h i j x y _ _ h1 h2; exact (agree_iff _ _).2 (h i j x y h1 h2)
theorem owner_iff {l : List It} {key s : ByteArray} (h : owner l key = some s) : s ≠ No ∧ ∃ (i : Nat) (x : It), l[i]? = some x ∧ x.1 = key ∧ x.2 = s := by
  unfold owner at h
  rw [Option.map_eq_some_iff] at h
  obtain ⟨x, hx, rfl⟩ := h
  have h1 := List.find?_some hx
  have h2 := List.mem_of_find?_eq_some hx
  simp at h1
  obtain ⟨i, hi, e⟩ := List.getElem_of_mem h2
  exact ⟨h1.2, i, x, by rw [List.getElem?_eq_getElem hi, e], h1.1, rfl⟩
theorem owner_none {l : List It} {key : ByteArray} (h : owner l key = none) : ∀ (i : Nat) (x : It), l[i]? = some x → x.1 = key → x.2 = No := by
  unfold owner at h
  rw [Option.map_eq_none_iff, List.find?_eq_none] at h
  intro i x hx hk
  have := h x (List.mem_of_getElem? hx)
  simp [hk] at this
  exact this
theorem put_get (l : List It) (k : Nat) (c : ByteArray) (i : Nat) : (putAt l k c)[i]? = if i = k then l[i]?.map (fun x => (x.1, c)) else l[i]? := by
  unfold putAt
  cases hk : l[k]? with
  | none =>
    by_cases e : i = k
    · subst e; simp [hk]
    · simp [e]
  | some y =>
    by_cases e : i = k
    · subst e
      have := (List.getElem?_eq_some_iff.1 hk).1
      have e2 := (List.getElem?_eq_some_iff.1 hk).2
      simp [this, e2]
    · simp [List.getElem?_set, e, Ne.symm e]
/-- What goes leaves lanes sound. -/
theorem put_sound {l : List It} {k : Nat} {c : ByteArray} (hs : sound l = true) (hm : may l k c = true) : sound (putAt l k c) = true := by
  rw [sound_iff] at hs ⊢
  obtain ⟨z, hz, hn, h⟩ := (may_iff _ _ _).1 hm
  have key : ∀ j y, (putAt l k c)[j]? = some y → j ≠ k → y.1 = z.1 → y.2 ≠ No → y.2 = c := by
    intro j y hy hj ht hu
    rw [put_get, if_neg hj] at hy
    exact (h j y hy ht).2.resolve_left hu
  intro i j x y hx hy ht hxu hyu
  by_cases hi : i = k
  · subst hi
    rw [put_get, if_pos rfl, hz] at hx
    simp at hx
    subst hx
    by_cases hj : j = i
    · subst hj
      rw [put_get, if_pos rfl, hz] at hy
      simp at hy
      subst hy; rfl
    · exact (key j y hy hj ht.symm hyu).symm
  · by_cases hj : j = k
    · subst hj
      rw [put_get, if_pos rfl, hz] at hy
      simp at hy
      subst hy
      exact key i x hx hi ht hxu
    · rw [put_get, if_neg hi] at hx
      rw [put_get, if_neg hj] at hy
      exact hs i j x y hx hy ht hxu hyu
theorem put_may {l : List It} {k : Nat} {c d : ByteArray} (hc : c ≠ No) : may (putAt l k c) k d = false := by
  rw [Bool.eq_false_iff]
  intro h
  obtain ⟨z, hz, hn, _⟩ := (may_iff _ _ _).1 h
  rw [put_get, if_pos rfl] at hz
  cases hk : l[k]? with
  | none => rw [hk] at hz; cases hz
  | some y => rw [hk] at hz; simp at hz; subst hz; exact hc hn
theorem headN_mem (l : List It) (n : Nat) (hn : n ≤ l.length) : ∀ k ∈ headN l n, k < n ∧ ∃ x, l[k]? = some x ∧ x.2 = No ∧ waits (l.take k) x.1 = false := by
  induction n with
  | zero => simp [headN]
  | succ n ih =>
    intro k hk
    have hx := List.getElem?_eq_getElem (show n < l.length by omega)
    unfold headN at hk
    rw [hx] at hk
    simp only at hk
    split at hk
    · rename_i h
      rcases List.mem_append.1 hk with hk | hk
      · have := ih (by omega) k hk
        exact ⟨by omega, this.2⟩
      · have : k = n := by simpa using hk
        subst this
        exact ⟨by omega, _, hx, h.1, h.2⟩
    · have := ih (by omega) k hk
      exact ⟨by omega, this.2⟩
/-- What is at the head may go: to whom its key is with; to anyone, if to none. -/
theorem head_may {l : List It} (hs : sound l = true) {k : Nat} (hk : k ∈ head l) {x : It} (hx : l[k]? = some x) :
    (∀ s, owner l x.1 = some s → may l k s = true) ∧ (owner l x.1 = none → ∀ c, may l k c = true) := by
  obtain ⟨_, y, hy, hn, hw⟩ := headN_mem l _ (Nat.le_refl _) k hk
  rw [hx] at hy
  injection hy with hy
  subst hy
  have hw' : ∀ i z, l[i]? = some z → z.1 = x.1 → ¬ (i < k ∧ z.2 = No) := by
    rintro i z hz ht ⟨hlt, h0⟩
    have : waits (l.take k) x.1 = true := by
      rw [waits_iff]
      refine ⟨z, ?_, h0, ht⟩
      rw [List.mem_take_iff_getElem]
      obtain ⟨h1, h2⟩ := List.getElem?_eq_some_iff.1 hz
      exact ⟨i, by omega, h2⟩
    rw [this] at hw; cases hw
  constructor
  · intro s ho
    obtain ⟨hs0, i, z, hz, ht, rfl⟩ := owner_iff ho
    rw [may_iff]
    refine ⟨x, hx, hn, fun j u hu hut => ⟨hw' j u hu hut, ?_⟩⟩
    by_cases h0 : u.2 = No
    · exact .inl h0
    · exact .inr ((sound_iff _).1 hs j i u z hu hz (hut.trans ht.symm) h0 hs0)
  · intro ho c
    rw [may_iff]
    exact ⟨x, hx, hn, fun j u hu hut => ⟨hw' j u hu hut, .inl (owner_none ho j u hu hut)⟩⟩
theorem may_owner {l : List It} {k : Nat} {c : ByteArray} (h : may l k c = true) {x : It} (hx : l[k]? = some x) {s : ByteArray} (ho : owner l x.1 = some s) : s = c := by
  obtain ⟨y, hy, _, hh⟩ := (may_iff _ _ _).1 h
  rw [hx] at hy
  injection hy with hy
  subst hy
  obtain ⟨hs, i, z, hz, ht, rfl⟩ := owner_iff ho
  exact (hh i z hz ht).2.resolve_left hs
theorem head_lt (l : List It) {k : Nat} (h : k ∈ head l) : k < l.length := (headN_mem l _ (Nat.le_refl _) k h).1
end Go.Proofs.Ytclhgnlhejohgaa.LaneP
