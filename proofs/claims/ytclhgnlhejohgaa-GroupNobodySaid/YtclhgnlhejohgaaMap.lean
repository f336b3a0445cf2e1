/- A map of the call's own, told as a list of its keys with their values: made, asked, written, cut, counted; over any program. -/
import Derived.WalkKit
import Derived.Maps.OwnSet
set_option linter.unusedVariables false
set_option linter.unusedSimpArgs false
namespace Go.Proofs.Ytclhgnlhejohgaa.Tc
open Go.RowKit Go.Maps

/-- An element told as the very value that it is. -/
def tokR (v : Value) : Option (DataW Value × List MemPlace) := some (.held v, [])

/-- What a key's type is. -/
structure KeyT (P : Program) (kt : TypeId) (κ : Type) where
  lit : κ → Lit
  val : κ → Value
  ok : κ → Prop
  key : ∀ x, ok x → keyOf P kt (val x) = some (lit x)
  isKey : ∀ x, WideAt.IsKeyLit (lit x)
  inj : ∀ x y, lit x = lit y → x = y
  keyed : Keyed P kt

noncomputable def intKey {P : Program} {kt : TypeId} (h : P.underlying kt = some (.int .i64)) : KeyT P kt Int where
  lit := .int .i64
  val := .int .i64
  ok x := (Lit.int .i64 x).wf = true
  key x hx := keyOf_int_mk h hx
  isKey x := trivial
  inj x y h := by injection h
  keyed := int_keyed h

noncomputable def strKey {P : Program} {kt : TypeId} (h : P.underlying kt = some .string) : KeyT P kt ByteArray where
  lit s := .string s.data.toList
  val := .string
  ok s := s.size ≤ maxLen
  key x hx := WideMaps.keyOf_string_mk h hx
  isKey x := trivial
  inj x y h := by
    injection h with h
    have := Array.ext' h
    cases x; cases y; simp_all
  keyed := string_keyed h

section
variable {P : Program} {kt : TypeId} {κ : Type} [DecidableEq κ]

def getL (L : List (κ × Value)) (x : κ) : Option Value := (L.find? (fun p => decide (p.1 = x))).map Prod.snd
def hasL (L : List (κ × Value)) (x : κ) : Bool := L.any (fun p => decide (p.1 = x))
def putL (L : List (κ × Value)) (x : κ) (v : Value) : List (κ × Value) := if hasL L x then L.map (fun p => if p.1 = x then (x, v) else p) else L ++ [(x, v)]
def delL (L : List (κ × Value)) (x : κ) : List (κ × Value) := L.filter (fun p => !decide (p.1 = x))

theorem getL_isSome (L : List (κ × Value)) (x : κ) : (getL L x).isSome = hasL L x := by
  unfold getL hasL
  rw [Option.isSome_map]
  induction L with
  | nil => rfl
  | cons p l ih => by_cases h : p.1 = x <;> simp [h, ih]
theorem getL_none {L : List (κ × Value)} {x : κ} (h : hasL L x = false) : getL L x = none := by
  have := getL_isSome L x
  rw [h] at this
  simpa using this
theorem hasL_iff (L : List (κ × Value)) (x : κ) : hasL L x = true ↔ x ∈ L.map Prod.fst := by
  unfold hasL
  simp only [List.any_eq_true, List.mem_map, decide_eq_true_eq]
theorem getL_mem {L : List (κ × Value)} {x : κ} {v : Value} (h : getL L x = some v) : (x, v) ∈ L := by
  unfold getL at h
  rw [Option.map_eq_some_iff] at h
  obtain ⟨p, hp, rfl⟩ := h
  have h1 := List.find?_some hp
  have h2 := List.mem_of_find?_eq_some hp
  have : p.1 = x := by simpa using h1
  cases p; simp_all
theorem getL_put (L : List (κ × Value)) (x y : κ) (v : Value) : getL (putL L x v) y = if y = x then some v else getL L y := by
  unfold putL
  by_cases hh : hasL L x = true
  · rw [if_pos hh]
    by_cases hy : y = x
    · subst hy
      rw [if_pos rfl]
      unfold hasL at hh
      unfold getL
      induction L with
      | nil => simp at hh
      | cons p l ih =>
        by_cases h : p.1 = y
        · simp [h]
        · have : l.any (fun p => decide (p.1 = y)) = true := by simpa [h] using hh
          simpa [h] using ih this
    · rw [if_neg hy]
      unfold getL
      clear hh
      induction L with
      | nil => rfl
      | cons p l ih =>
        by_cases h : p.1 = x
        · have h1 : ¬ x = y := fun e => hy e.symm
          have h2 : ¬ p.1 = y := fun e => hy (e.symm.trans h)
          simpa [h, h1, h2] using ih
        · by_cases h2 : p.1 = y
          · have h3 : ¬ y = x := hy
            simp only [List.map_cons, List.find?_cons]
            rw [if_neg h, decide_eq_true h2]
          · simpa [h, h2] using ih
  · rw [if_neg hh]
    unfold getL
    rw [List.find?_append]
    by_cases hy : y = x
    · subst hy
      have hn : getL L y = none := getL_none (by simpa using hh)
      unfold getL at hn
      rw [Option.map_eq_none_iff] at hn
      rw [hn]
      simp
    · have h1 : ¬ x = y := fun e => hy e.symm
      simp [h1, hy]
theorem getL_del (L : List (κ × Value)) (x y : κ) : getL (delL L x) y = if y = x then none else getL L y := by
  unfold delL getL
  induction L with
  | nil => simp
  | cons p l ih =>
    by_cases h : p.1 = x
    · by_cases hy : y = x
      · subst hy
        simp [h]
      · have h1 : ¬ x = y := fun e => hy e.symm
        simpa [h, hy, h1] using ih
    · by_cases hy : y = x
      · subst hy
        simp only [List.filter_cons, h, decide_false, Bool.not_false, if_true, List.find?_cons]
        simp
      · by_cases h2 : p.1 = y
        · simp [h, h2, hy]
        · simpa [h, hy, h2] using ih
theorem keys_put {L : List (κ × Value)} {x : κ} {v : Value} : (putL L x v).map Prod.fst = if hasL L x then L.map Prod.fst else L.map Prod.fst ++ [x] := by
  unfold putL
  by_cases hh : hasL L x = true
  · rw [if_pos hh, if_pos hh, List.map_map]
    apply List.map_congr_left
    intro p _
    show (if p.1 = x then (x, v) else p).1 = p.1
    split
    · rename_i h; exact h.symm
    · rfl
  · rw [if_neg hh, if_neg hh]; simp
theorem length_put {L : List (κ × Value)} {x : κ} {v : Value} : (putL L x v).length = if hasL L x then L.length else L.length + 1 := by
  unfold putL
  split <;> simp
theorem nodup_put {L : List (κ × Value)} {x : κ} {v : Value} (h : (L.map Prod.fst).Nodup) : ((putL L x v).map Prod.fst).Nodup := by
  rw [keys_put]
  split
  · exact h
  · rename_i hh
    rw [List.nodup_append]
    refine ⟨h, by simp, ?_⟩
    intro a ha b hb e
    have : b = x := by simpa using hb
    subst this; subst e
    exact hh ((hasL_iff L a).2 ha)
theorem nodup_del {L : List (κ × Value)} {x : κ} (h : (L.map Prod.fst).Nodup) : ((delL L x).map Prod.fst).Nodup := by
  unfold delL
  exact List.Nodup.sublist (List.Sublist.map _ List.filter_sublist) h
theorem length_del {L : List (κ × Value)} {x : κ} (h : (L.map Prod.fst).Nodup) : (delL L x).length + (if hasL L x then 1 else 0) = L.length := by
  unfold delL hasL
  induction L with
  | nil => rfl
  | cons p l ih =>
    simp only [List.map_cons, List.nodup_cons] at h
    by_cases hp : p.1 = x
    · have hn : l.any (fun p => decide (p.1 = x)) = false := by
        rw [List.any_eq_false]
        intro q hq
        simp
        intro e
        exact h.1 (by rw [hp, ← e]; exact List.mem_map_of_mem hq)
      have := ih h.2
      rw [hn] at this
      simp [hp, hn]
      simpa using this
    · have := ih h.2
      simp only [List.filter_cons, List.any_cons, hp, decide_false, Bool.not_false, if_true, Bool.false_or, List.length_cons]
      omega

/-- BLOCK b OF w IS A MAP OF JUST THESE KEYS, EACH ONCE, WITH THESE VALUES. -/
def MapIs (T : KeyT P kt κ) (w : World) (b : Nat) (L : List (κ × Value)) : Prop :=
  ∃ D : DataW Value, w.ownsMap P kt tokR b L.length D ∧ size D = L.length ∧ (L.map Prod.fst).Nodup ∧ (∀ p ∈ L, T.ok p.1) ∧
    ∀ x z, D.atKey (T.lit x) z = match getL L x with | some v => .held v | none => z

variable {T : KeyT P kt κ} {w : World} {b : Nat} {L : List (κ × Value)}

theorem MapIs.has {D : DataW Value} (h : ∀ x z, D.atKey (T.lit x) z = match getL L x with | some v => .held v | none => z) (x : κ) : Maps.has D (T.lit x) = hasL L x := by
  rw [← getL_isSome]
  cases hg : getL L x with
  | none => rw [has_false_of_atKey (fun z => by rw [h, hg])]; rfl
  | some v => rw [has_true_of_atKey (y := .held v) (fun z => by rw [h, hg])]; rfl
theorem MapIs.lt (h : MapIs T w b L) : b < w.heap.size := by
  obtain ⟨D, ho, _⟩ := h
  exact ho.lt
theorem MapIs.nodup (h : MapIs T w b L) : (L.map Prod.fst).Nodup := by obtain ⟨_, _, _, h, _⟩ := h; exact h
theorem MapIs.ok (h : MapIs T w b L) : ∀ p ∈ L, T.ok p.1 := by obtain ⟨_, _, _, _, h, _⟩ := h; exact h
theorem MapIs.block (h : MapIs T w b L) : ∃ es k, w.heap[b]? = some (.map es k) := by
  obtain ⟨_, ⟨es, k, h, _⟩, _⟩ := h
  exact ⟨es, k, h⟩
/-- It hangs on its own block alone. -/
theorem MapIs.of_block {w' : World} (h : MapIs T w b L) (hb : w'.heap[b]? = w.heap[b]?) : MapIs T w' b L := by
  obtain ⟨D, ⟨es, clock, h1, h2⟩, h3⟩ := h
  exact ⟨D, ⟨es, clock, hb.trans h1, h2⟩, h3⟩
theorem MapIs.made (T : KeyT P kt κ) (w : World) : MapIs T (w.alloc (.map #[] 0)) w.heap.size [] :=
  ⟨_, World.ownsMap_made w P kt tokR, rfl, by simp, by simp, fun _ _ => rfl⟩
theorem MapIs.look {t e : TypeId} (h : MapIs T w b L) (ht : P.underlying t = some (.map kt e)) {z : Value} (hz : (zeroValue e).run P w = .ok z w) (x : κ) (hx : T.ok x) :
    (Instr.lookup t (.map (some b)) (T.val x) false).run P w = .ok ((getL L x).getD z) w := by
  obtain ⟨D, ho, _, _, _, hat⟩ := h
  obtain ⟨v, ps, hrun, hv⟩ := ho.lookup T.keyed ht hz (zd := .held z) (zp := []) rfl (T.key x hx)
  rw [hrun]
  have := congrArg Prod.fst (Option.some.inj hv)
  rw [hat] at this
  cases hg : getL L x with
  | none => rw [hg] at this; injection this with this; rw [this]; rfl
  | some y => rw [hg] at this; injection this with this; rw [this]; rfl
theorem MapIs.look_ok {t e : TypeId} (h : MapIs T w b L) (ht : P.underlying t = some (.map kt e)) {z : Value} (hz : (zeroValue e).run P w = .ok z w) (x : κ) (hx : T.ok x) :
    (Instr.lookup t (.map (some b)) (T.val x) true).run P w = .ok (.tuple #[(getL L x).getD z, .bool (hasL L x)]) w := by
  obtain ⟨D, ho, _, _, _, hat⟩ := h
  obtain ⟨v, ps, hrun, hv⟩ := ho.look_ok T.keyed ht hz (zd := .held z) (zp := []) rfl (T.key x hx)
  rw [hrun, MapIs.has hat]
  have := congrArg Prod.fst (Option.some.inj hv)
  rw [hat] at this
  cases hg : getL L x with
  | none => rw [hg] at this; injection this with this; rw [this]; rfl
  | some y => rw [hg] at this; injection this with this; rw [this]; rfl
theorem MapIs.len {t e : TypeId} (h : MapIs T w b L) (ht : P.underlying t = some (.map kt e)) (ty : TypeId) :
    (Builtin.len_ #[t] ty #[.map (some b)]).run P w = .ok (.int .i64 L.length) w := by
  obtain ⟨D, ho, hs, _⟩ := h
  rw [ho.len ht ty, hs]
theorem MapIs.store {t e : TypeId} (h : MapIs T w b L) (ht : P.underlying t = some (.map kt e)) (hn : L.length < maxLen) (x : κ) (hx : T.ok x) (v : Value) :
    ∃ w', (Instr.mapUpdate t (.map (some b)) (T.val x) v).run P w = .ok () w' ∧ MapIs T w' b (putL L x v) ∧ w.grownBy w' (some b) ∧ w'.heap.size = w.heap.size := by
  obtain ⟨D, ho, hs, hd, hok, hat⟩ := h
  have hty := ho.tidy T.keyed
  obtain ⟨w', hrun, ho', hturn⟩ := ho.store T.keyed ht hn (T.key x hx) (val := v) (d := .held v) (ps := []) rfl
  have hsz : w'.heap.size = w.heap.size := by
    obtain ⟨es, clock, es', clock', hb, rfl⟩ := hturn
    simp [ChangeMaps.setBlock]
  have hs' : size (D.put (T.lit x) (.held v)) = (putL L x v).length := by
    rw [size_put hty, MapIs.has hat, hs, length_put]
  refine ⟨w', hrun, ⟨_, ?_, hs', nodup_put hd, ?_, ?_⟩, hturn.grown, hsz⟩
  · obtain ⟨es, clock, h1, h2, h3, h4⟩ := ho'
    refine ⟨es, clock, h1, h2, ?_, h4⟩
    have : es.size = size (D.put (T.lit x) (.held v)) := by rw [h4]; simp [size, length_sorted]
    rw [this, hs']; exact Nat.le_refl _
  · intro p hp
    unfold putL at hp
    split at hp
    · obtain ⟨q, hq, rfl⟩ := List.mem_map.1 hp
      by_cases e : q.1 = x
      · simp [e, hx]
      · simp [e, hok q hq]
    · rcases List.mem_append.1 hp with hp | hp
      · exact hok p hp
      · have : p = (x, v) := by simpa using hp
        rw [this]; exact hx
  · intro y z
    rw [getL_put]
    by_cases hy : y = x
    · subst hy
      rw [if_pos rfl, atKey_put_same hty.isMap (T.isKey y)]
    · rw [if_neg hy, atKey_put_other (fun e => hy (T.inj _ _ e)), hat]
theorem MapIs.drop {t e : TypeId} (h : MapIs T w b L) (ht : P.underlying t = some (.map kt e)) (x : κ) (hx : T.ok x) (ty : TypeId) :
    ∃ w', (Builtin.delete_ #[t, kt] ty #[.map (some b), T.val x]).run P w = .ok (.tuple #[]) w' ∧ MapIs T w' b (delL L x) ∧ w.grownBy w' (some b) ∧ w'.heap.size = w.heap.size := by
  obtain ⟨D, ho, hs, hd, hok, hat⟩ := h
  have hty := ho.tidy T.keyed
  obtain ⟨w', hrun, ho', hturn⟩ := ho.drop T.keyed ht (T.key x hx) ty
  have hsz : w'.heap.size = w.heap.size := by
    obtain ⟨es, clock, es', clock', hb, rfl⟩ := hturn
    simp [ChangeMaps.setBlock]
  have hs' : size (D.del (T.lit x)) = (delL L x).length := by
    have h1 := size_del (k := T.lit x) hty
    rw [MapIs.has hat, hs] at h1
    have h2 := length_del (x := x) hd
    omega
  refine ⟨w', hrun, ⟨_, ?_, hs', nodup_del hd, ?_, ?_⟩, hturn.grown, hsz⟩
  · obtain ⟨es, clock, h1, h2, h3, h4⟩ := ho'
    refine ⟨es, clock, h1, h2, ?_, h4⟩
    have : es.size = size (D.del (T.lit x)) := by rw [h4]; simp [size, length_sorted]
    rw [this, hs']; exact Nat.le_refl _
  · intro p hp
    exact hok p (List.mem_filter.1 hp).1
  · intro y z
    rw [getL_del]
    by_cases hy : y = x
    · subst hy
      rw [if_pos rfl, atKey_del_same]
    · rw [if_neg hy, atKey_del_other (fun e => hy (T.inj _ _ e)), hat]
end
end Go.Proofs.Ytclhgnlhejohgaa.Tc
