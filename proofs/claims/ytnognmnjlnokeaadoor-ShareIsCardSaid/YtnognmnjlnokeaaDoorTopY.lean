/- TopicWide: the plain part. -/
import Derived.Test.YtnognmnjlnokeaaDoorTopK
set_option linter.unusedVariables false
set_option linter.unusedSimpArgs false
namespace Go.Proofs.YtnognmnjlnokeaaDoor.TopW
open Go.RowKit Go.Proofs.YtnognmnjlnokeaaDoor.Tc Go.Proofs.YtnognmnjlnokeaaDoor.TopP

theorem isLevel_plain {x : List UInt8} (h1 : 43 ∉ x) (h2 : 35 ∉ x) (b : Bool) : isLevel x b = true := by
  simp [isLevel, has, h1, h2]
theorem isLevel_plus (b : Bool) : isLevel [43] b = true := by cases b <;> decide
theorem isLevel_hash : isLevel [35] true = true := by decide
theorem takes_prefix (P X Y : List (List UInt8)) (h : ∀ x ∈ P, x ≠ [35]) : takes (P ++ X) (P ++ Y) = takes X Y := by
  induction P with
  | nil => rfl
  | cons x P ih =>
    rw [List.cons_append, List.cons_append, takes_cons, if_neg (h x (by simp))]
    simp only [decide_true, Bool.or_true, Bool.true_and]
    exact ih (fun y hy => h y (by simp [hy]))
theorem takes_self (P : List (List UInt8)) (h : ∀ x ∈ P, x ≠ [35]) : takes P P = true := by
  have := takes_prefix P [] [] h
  rw [List.append_nil] at this
  rw [this]; rfl
theorem takes_plain (P : List (List UInt8)) : ∀ (Y : List (List UInt8)), (∀ x ∈ P, x ≠ [35] ∧ x ≠ [43]) → takes P Y = decide (P = Y) := by
  induction P with
  | nil => intro Y _; cases Y <;> simp [takes]
  | cons x P ih =>
    intro Y h
    rw [takes_cons, if_neg (h x (by simp)).1]
    cases Y with
    | nil => simp
    | cons y Y =>
      simp only
      rw [ih Y (fun z hz => h z (by simp [hz]))]
      have := (h x (by simp)).2
      simp [this]
/-- What a name's levels are. -/
structure NameL (n : List UInt8) : Prop where
  ne : n ≠ []
  val : ∀ x ∈ lv n, valid x = true
  len : (lv n).length ≤ 32
  no43 : ∀ x ∈ lv n, 43 ∉ x
  no35 : ∀ x ∈ lv n, 35 ∉ x
theorem nameL {n : List UInt8} (h : isName n = true) : NameL n := by
  rw [isName_iff, may_iff] at h
  obtain ⟨⟨h1, h2, h3⟩, h4, h5⟩ := h
  have hv : valid (jn (lv n)) = true := by rw [jn_lv]; exact h2
  rw [valid_jn (lv_ne n)] at hv
  have hm : ∀ x ∈ lv n, ∀ c, c ∈ x → c ∈ n := fun x hx c hc => by have := mem_jn hx hc; rwa [jn_lv] at this
  exact ⟨h1, hv, h3, fun x hx e => h4 (hm x hx _ e), fun x hx e => h5 (hm x hx _ e)⟩
theorem match_of {n : List UInt8} (hn : isName n = true) {F : List (List UInt8)} (h0 : F ≠ []) (h1 : ∀ x ∈ F, 47 ∉ x) (h2 : ∀ x ∈ F, valid x = true) (h3 : F.length ≤ 32) (h4 : levelsOk F = true) (h5 : jn F ≠ []) (h6 : takes F (lv n) = true) : isMatch (jn F) n = !hidden (jn F) n := by
  have hlv : lv (jn F) = F := lv_jn h0 h1
  have hf : isFilter (jn F) = true := by
    unfold isFilter
    rw [hlv, h4, Bool.and_true, may_iff]
    exact ⟨h5, (valid_jn h0).2 h2, by rw [hlv]; exact h3⟩
  unfold isMatch
  rw [hf, hn, hlv, h6]
  simp
theorem head_jn (x : List UInt8) (t : List (List UInt8)) : (jn (x :: t)).head? = if x = [] then (if t = [] then none else some 47) else x.head? := by
  cases t with
  | nil => cases x <;> simp [jn]
  | cons y t =>
    rw [jn_cons x (by simp)]
    cases x <;> simp
theorem jn_ne {x : List UInt8} {t : List (List UInt8)} (h : x ≠ [] ∨ t ≠ []) : jn (x :: t) ≠ [] := by
  intro e
  have := head_jn x t
  rw [e] at this
  by_cases hx : x = []
  · rw [if_pos hx, if_neg (h.resolve_left (fun h => h hx))] at this
    cases this
  · rw [if_neg hx] at this
    cases x with
    | nil => exact hx rfl
    | cons c r => cases this
/-- A filter that begins with no wild letter hides nothing. -/
theorem not_hidden {f n : List UInt8} (h1 : f.head? ≠ some 43) (h2 : f.head? ≠ some 35) : hidden f n = false := by simp [hidden, h1, h2]
theorem head_plain {x : List UInt8} (t : List (List UInt8)) (h1 : 43 ∉ x) (h2 : 35 ∉ x) : (jn (x :: t)).head? ≠ some 43 ∧ (jn (x :: t)).head? ≠ some 35 := by
  rw [head_jn]
  by_cases hx : x = []
  · rw [if_pos hx]
    by_cases ht : t = []
    · rw [if_pos ht]; simp
    · rw [if_neg ht]; exact ⟨by decide, by decide⟩
  · rw [if_neg hx]
    cases x with
    | nil => exact absurd rfl hx
    | cons c r =>
      simp only [List.head?_cons, ne_eq, Option.some.injEq]
      exact ⟨fun e => h1 (by simp [e]), fun e => h2 (by simp [e])⟩
def free (k : Nat) (n : List UInt8) : Bool := decide (0 < k) || !decide (n.head? = some 36)
theorem levelsOk_plain {F : List (List UInt8)} (h : ∀ x ∈ F, (43 ∉ x ∧ 35 ∉ x) ∨ x = [43]) : levelsOk F = true := by
  rw [levelsOk_iff]
  intro j hj
  rcases h _ (List.getElem_mem hj) with h | h
  · exact isLevel_plain h.1 h.2 _
  · rw [h]; exact isLevel_plus _
theorem levelsOk_hash {P : List (List UInt8)} (h : ∀ x ∈ P, 43 ∉ x ∧ 35 ∉ x) : levelsOk (P ++ [[35]]) = true := by
  rw [levelsOk_iff]
  intro j hj
  rw [List.getElem_append]
  by_cases hl : j < P.length
  · rw [dif_pos hl]
    have := h _ (List.getElem_mem hl)
    exact isLevel_plain this.1 this.2 _
  · rw [dif_neg hl]
    have hj2 : j = P.length := by simp at hj; omega
    subst hj2
    simpa using isLevel_hash
theorem ne35 {x : List UInt8} (h : 35 ∉ x) : x ≠ [35] := fun e => h (by simp [e])
theorem ne43 {x : List UInt8} (h : 43 ∉ x) : x ≠ [43] := fun e => h (by simp [e])
theorem v43 : valid [43] = true := by decide +kernel
theorem v35 : valid [35] = true := by decide +kernel
theorem self_match {n : List UInt8} (hn : isName n = true) : isMatch n n = true := by
  obtain ⟨h1, h2, h3, h4, h5⟩ := nameL hn
  have hm := match_of hn (lv_ne n) (lv_mem n) h2 h3 (levelsOk_plain fun x hx => .inl ⟨h4 x hx, h5 x hx⟩) (by rw [jn_lv]; exact h1) (takes_self _ fun x hx => ne35 (h5 x hx))
  rw [jn_lv] at hm
  rw [hm]
  obtain ⟨x, t, hxt⟩ := List.exists_cons_of_ne_nil (lv_ne n)
  have hh := head_plain t (h4 x (by rw [hxt]; simp)) (h5 x (by rw [hxt]; simp))
  rw [← hxt, jn_lv] at hh
  rw [not_hidden hh.1 hh.2]; rfl
theorem other_match {o n : List UInt8} (ho : isName o = true) (hn : isName n = true) : isMatch o n = decide (o = n) := by
  by_cases e : o = n
  · subst e; rw [self_match hn]; simp
  · obtain ⟨h1, h2, h3, h4, h5⟩ := nameL ho
    have ht : takes (lv o) (lv n) = false := by
      rw [takes_plain _ _ (fun x hx => ⟨ne35 (h5 x hx), ne43 (h4 x hx)⟩)]
      rw [decide_eq_false_iff_not]
      intro h
      exact e (by rw [← jn_lv o, h, jn_lv])
    unfold isMatch
    rw [ht]
    simp [e]
theorem no_match {n : List UInt8} (hn : isName n = false) (f : List UInt8) : isMatch f n = false := by
  unfold isMatch
  rw [hn]
  simp
theorem plus_match {n : List UInt8} (hn : isName n = true) {k : Nat} (hk : k < (lv n).length) : isMatch (jn ((lv n).take k ++ [43] :: (lv n).drop (k + 1))) n = free k n := by
  obtain ⟨h1, h2, h3, h4, h5⟩ := nameL hn
  have mt : ∀ x ∈ (lv n).take k, x ∈ lv n := fun x hx => List.mem_of_mem_take hx
  have md : ∀ x ∈ (lv n).drop (k + 1), x ∈ lv n := fun x hx => List.mem_of_mem_drop hx
  have mm : ∀ x ∈ (lv n).take k ++ [43] :: (lv n).drop (k + 1), x ∈ lv n ∨ x = [43] := by
    intro x hx
    rcases List.mem_append.1 hx with hx | hx
    · exact .inl (mt x hx)
    · rcases List.mem_cons.1 hx with rfl | hx
      · exact .inr rfl
      · exact .inl (md x hx)
  have ht : takes ((lv n).take k ++ [43] :: (lv n).drop (k + 1)) (lv n) = true := by
    have hs : lv n = (lv n).take k ++ (lv n)[k] :: (lv n).drop (k + 1) := by rw [← List.drop_eq_getElem_cons hk, List.take_append_drop]
    conv => lhs; rw [show takes ((lv n).take k ++ [43] :: (lv n).drop (k + 1)) (lv n) = takes ((lv n).take k ++ [43] :: (lv n).drop (k + 1)) ((lv n).take k ++ (lv n)[k] :: (lv n).drop (k + 1)) by rw [← hs]]
    rw [takes_prefix _ _ _ (fun x hx => ne35 (h5 x (mt x hx))), takes_cons, if_neg (by decide)]
    simp only [decide_true, Bool.true_or, Bool.true_and]
    exact takes_self _ (fun x hx => ne35 (h5 x (md x hx)))
  have key := match_of hn (F := (lv n).take k ++ [43] :: (lv n).drop (k + 1)) (by simp) (fun x hx => by rcases mm x hx with h | rfl; exact lv_mem n x h; decide) (fun x hx => by rcases mm x hx with h | rfl; exact h2 x h; exact v43)
    (by rw [List.length_append, List.length_take, List.length_cons, List.length_drop]; omega) (levelsOk_plain fun x hx => by rcases mm x hx with h | rfl; exact .inl ⟨h4 x h, h5 x h⟩; exact .inr rfl)
  cases k with
  | zero =>
    have := key (by rw [List.take_zero, List.nil_append]; exact jn_ne (.inl (by simp))) ht
    rw [this, List.take_zero, List.nil_append]
    unfold hidden free
    rw [head_jn]
    simp
  | succ k =>
    obtain ⟨x, t, hxt⟩ := List.exists_cons_of_ne_nil (lv_ne n)
    have hx : x ∈ lv n := by rw [hxt]; simp
    rw [hxt, List.take_succ_cons, List.cons_append] at key ht ⊢
    rw [key (jn_ne (.inr (by simp))) ht]
    have hh := head_plain (t.take k ++ [43] :: (x :: t).drop (k + 1 + 1)) (h4 x hx) (h5 x hx)
    rw [not_hidden hh.1 hh.2]
    simp [free]
theorem hash_match {n : List UInt8} (hn : isName n = true) {k : Nat} (hk : k < (lv n).length) : isMatch (jn ((lv n).take k ++ [[35]])) n = free k n := by
  obtain ⟨h1, h2, h3, h4, h5⟩ := nameL hn
  have mt : ∀ x ∈ (lv n).take k, x ∈ lv n := fun x hx => List.mem_of_mem_take hx
  have mm : ∀ x ∈ (lv n).take k ++ [[35]], x ∈ lv n ∨ x = [35] := by
    intro x hx
    rcases List.mem_append.1 hx with hx | hx
    · exact .inl (mt x hx)
    · exact .inr (List.mem_singleton.1 hx)
  have ht : takes ((lv n).take k ++ [[35]]) (lv n) = true := by
    conv => lhs; rw [show takes ((lv n).take k ++ [[35]]) (lv n) = takes ((lv n).take k ++ [[35]]) ((lv n).take k ++ (lv n).drop k) by rw [List.take_append_drop]]
    rw [takes_prefix _ _ _ (fun x hx => ne35 (h5 x (mt x hx))), takes_cons, if_pos rfl]
  have key := match_of hn (F := (lv n).take k ++ [[35]]) (by simp) (fun x hx => by rcases mm x hx with h | rfl; exact lv_mem n x h; decide) (fun x hx => by rcases mm x hx with h | rfl; exact h2 x h; exact v35)
    (by rw [List.length_append, List.length_take, List.length_singleton]; omega) (levelsOk_hash fun x hx => ⟨h4 x (mt x hx), h5 x (mt x hx)⟩)
  cases k with
  | zero =>
    rw [key (by simp [jn]) ht]
    simp [hidden, free, jn]
  | succ k =>
    obtain ⟨x, t, hxt⟩ := List.exists_cons_of_ne_nil (lv_ne n)
    have hx : x ∈ lv n := by rw [hxt]; simp
    rw [hxt, List.take_succ_cons, List.cons_append] at key ht ⊢
    rw [key (jn_ne (.inr (by simp))) ht]
    have hh := head_plain (t.take k ++ [[35]]) (h4 x hx) (h5 x hx)
    rw [not_hidden hh.1 hh.2]
    simp [free]
theorem long_match {n : List UInt8} (hn : isName n = true) (hl : (lv n).length ≠ 32) : isMatch (jn (lv n ++ [[35]])) n = true := by
  obtain ⟨h1, h2, h3, h4, h5⟩ := nameL hn
  have mm : ∀ x ∈ lv n ++ [[35]], x ∈ lv n ∨ x = [35] := by
    intro x hx
    rcases List.mem_append.1 hx with hx | hx
    · exact .inl hx
    · exact .inr (List.mem_singleton.1 hx)
  have ht : takes (lv n ++ [[35]]) (lv n) = true := by
    have := takes_prefix (lv n) [[35]] [] (fun x hx => ne35 (h5 x hx))
    rw [List.append_nil] at this
    rw [this, takes_cons, if_pos rfl]
  have key := match_of hn (F := lv n ++ [[35]]) (by simp) (fun x hx => by rcases mm x hx with h | rfl; exact lv_mem n x h; decide) (fun x hx => by rcases mm x hx with h | rfl; exact h2 x h; exact v35)
    (by rw [List.length_append, List.length_singleton]; omega) (levelsOk_hash fun x hx => ⟨h4 x hx, h5 x hx⟩)
  obtain ⟨x, t, hxt⟩ := List.exists_cons_of_ne_nil (lv_ne n)
  have hx : x ∈ lv n := by rw [hxt]; simp
  rw [hxt, List.cons_append] at key ht ⊢
  rw [key (jn_ne (.inr (by simp))) ht]
  have hh := head_plain (t ++ [[35]]) (h4 x hx) (h5 x hx)
  rw [not_hidden hh.1 hh.2]
  rfl
end Go.Proofs.YtnognmnjlnokeaaDoor.TopW
