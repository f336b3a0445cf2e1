/- A slice whose array is the call's own: read, appended to, kept; over any program. -/
import Derived.WalkKit
import Derived.Maps.AppendAt
import Derived.Test.YtclhgnlhejohgaaFrame
set_option linter.unusedVariables false
set_option linter.unusedSimpArgs false
namespace Go.Proofs.Ytclhgnlhejohgaa.Tc
open Go.RowKit
section
variable {w w' : World} {e : TypeId} {size : Nat} {v : Value} {n : Nat} {xs : List Value}
theorem own_form (h : w.ownsRow 0 e size v n xs) : ∃ A c, v = .slice A n c := by
  rcases h.2 with ⟨rfl, rfl⟩ | ⟨g, cap, cur, rfl, _⟩
  · exact ⟨none, 0, rfl⟩
  · exact ⟨_, cap, rfl⟩
theorem own_le (h : w.ownsRow 0 e size v n xs) : n ≤ maxLen := by
  rcases h.2 with ⟨rfl, rfl⟩ | ⟨g, cap, cur, rfl, _, _, h1, h2, _⟩
  · exact Nat.zero_le _
  · exact Nat.le_trans h1 h2
theorem own_nil (w : World) (e : TypeId) (size : Nat) : w.ownsRow 0 e size (.slice none 0 0) 0 [] := World.ownsRow_nil w 0 e size
/-- Its block's type. -/
theorem own_type (h : w.ownsRow 0 e size v n xs) {g : Nat} (hg : v.ownBlock = some g) : ∃ cur, w.heap[g]? = some (.cells cur e (0, 0)) := by
  rcases h.2 with ⟨rfl, rfl⟩ | ⟨g', cap, cur, rfl, _, hh, _⟩
  · simp [Value.ownBlock] at hg
  · have : g' = g := by simpa [Value.ownBlock] using hg
    subst this
    exact ⟨cur, hh⟩
theorem own_lt (h : w.ownsRow 0 e size v n xs) {g : Nat} (hg : v.ownBlock = some g) : g < w.heap.size := (h.lt g hg).2
/-- Where there is an element: the slice's form, and every cell. -/
theorem own_cells (h : w.ownsRow 0 e size v n xs) (hn : 0 < n) : ∃ g c, v = .slice (some ⟨g, 0, none⟩) n c ∧ (∀ j, w.frozen? ⟨g, j, none⟩ = false) ∧ ∀ j u, xs[j]? = some u → w.cell? ⟨g, j, none⟩ = some u := by
  rcases h.2 with ⟨rfl, rfl⟩ | ⟨g, cap, cur, rfl, _, hh, _⟩
  · omega
  · refine ⟨g, cap, rfl, fun j => free_of hh j, fun j u hu => ?_⟩
    have := h.cells (g := g) rfl j u hu
    have hadd : (⟨g, 0, none⟩ : Addr).add j = ⟨g, j, none⟩ := by unfold Addr.add; split <;> simp_all
    rwa [hadd] at this
/-- It stays where its block is not touched. -/
theorem own_kept {S : List Nat} (h : w.ownsRow 0 e size v n xs) (ht : Tch S w w') (hs : ∀ g, v.ownBlock = some g → g ∉ S) : w'.ownsRow 0 e size v n xs := by
  refine ⟨h.1, ?_⟩
  rcases h.2 with hn | ⟨g, cap, cur, rfl, hb, hh, rest⟩
  · exact .inl hn
  · exact .inr ⟨g, cap, cur, rfl, hb, (ht.block g (lt_of_block hh) (hs g rfl)).trans hh, rest⟩
theorem own_type_ne {s : Nat} {c : Array Value} {t : TypeId} {f : Nat × Nat} (h : w.ownsRow 0 e size v n xs) (hs : w.heap[s]? = some (.cells c t f)) (hne : e ≠ t) : ∀ g, v.ownBlock = some g → g ≠ s := by
  intro g hg
  obtain ⟨cur, hc⟩ := own_type h hg
  exact type_ne hc hs hne
theorem own_map_ne {s : Nat} {es : Array MapEntry} {k : Nat} (h : w.ownsRow 0 e size v n xs) (hs : w.heap[s]? = some (.map es k)) : ∀ g, v.ownBlock = some g → g ≠ s := by
  intro g hg
  obtain ⟨cur, hc⟩ := own_type h hg
  exact map_ne hc hs
end
/-- 'append(v, x)': x is laid in a block of its own first. -/
theorem append_one {P : Program} {w : World} {e t ty : TypeId} {size bytes : Nat} {v : Value} {n : Nat} {xs : List Value} {i : TypeInfo} {z : Value}
    (ht : P.underlying t = some (.slice e)) (hi : P.info? e = some i) (hz : i.zero = some z) (hsize : i.size = size) (hby : i.bytes = bytes) (hzs : z.cells.size = size) (hsz : 0 < size)
    (h : w.ownsRow 0 e size v n xs) (news : List Value) (hl : news.length = size) (h1 : ∀ u ∈ news, u.oneCell' = true) (h63 : n + 1 ≤ maxLen) (hbytes : (n + 1) * bytes ≤ 140737488355328) :
    ∃ v' w', (Builtin.append_ #[t, t] ty #[v, .slice (some ⟨w.heap.size, 0, none⟩) 1 1]).run P (w.alloc (.cells news.toArray e)) = .ok v' w' ∧ w'.ownsRow 0 e size v' (n + 1) (xs ++ news) ∧
      Tch v.ownBlock.toList w w' ∧ (∀ g, v'.ownBlock = some g → v.ownBlock = some g ∨ w.heap.size ≤ g) ∧ w.heap.size < w'.heap.size := by
  have hcell : ∀ j u, news[j]? = some u → (w.alloc (.cells news.toArray e)).cell? ((⟨w.heap.size, 0, none⟩ : Addr).add j) = some u := by
    intro j u hu
    have hadd : (⟨w.heap.size, 0, none⟩ : Addr).add j = ⟨w.heap.size, j, none⟩ := by unfold Addr.add; split <;> simp_all
    rw [hadd, World.cell?_alloc_new]
    simpa using hu
  obtain ⟨v', w', hr, hown, hg, _, hloc⟩ := run_append_own_at (P := P) (w.alloc (.cells news.toArray e)) 0 t ty e i z size bytes ht hi hz hsize hby hzs hsz v n xs (h.alloc _)
    ⟨w.heap.size, 0, none⟩ 1 1 news (by simpa using hl) hcell h1 h63 hbytes (Nat.zero_le _)
  refine ⟨v', w', hr, hown, ?_, ?_, ?_⟩
  · refine ((Tch.refl _ w).alloc _).grown hg ?_
    intro k hk
    left
    rw [hk]
    simp
  · intro g hg'
    rcases hloc with hloc | hloc
    · exact .inl (hloc ▸ hg')
    · rw [hloc] at hg'
      injection hg' with hg'
      subst hg'
      right
      simp
  · have := hg.size
    simp at this
    omega
/-- 'append(v, xs...)': xs is read where it lies; nil let in. -/
theorem append_list {P : Program} {w : World} {e t ty : TypeId} {size bytes : Nat} {v : Value} {n : Nat} {xs : List Value} {i : TypeInfo} {z : Value}
    (ht : P.underlying t = some (.slice e)) (hi : P.info? e = some i) (hz : i.zero = some z) (hsize : i.size = size) (hby : i.bytes = bytes) (hzs : z.cells.size = size) (hsz : 0 < size)
    (h : w.ownsRow 0 e size v n xs) (A : Option Addr) (m c : Nat) (news : List Value) (hl : news.length = m * size) (hsrc : 0 < m → ∃ ad, A = some ad ∧ ∀ j u, news[j]? = some u → w.cell? (ad.add j) = some u)
    (h1 : ∀ u ∈ news, u.oneCell' = true) (h63 : n + m ≤ maxLen) (hbytes : (n + m) * bytes ≤ 140737488355328) :
    ∃ v' w', (Builtin.append_ #[t, t] ty #[v, .slice A m c]).run P w = .ok v' w' ∧ w'.ownsRow 0 e size v' (n + m) (xs ++ news) ∧
      Tch v.ownBlock.toList w w' ∧ (∀ g, v'.ownBlock = some g → v.ownBlock = some g ∨ w.heap.size ≤ g) := by
  rcases A with _ | ad
  · have hm : m = 0 := by
      rcases Nat.eq_zero_or_pos m with h0 | h0
      · exact h0
      · obtain ⟨ad, h, _⟩ := hsrc h0
        cases h
    subst hm
    obtain rfl : news = [] := List.eq_nil_of_length_eq_zero (by simpa using hl)
    refine ⟨v, w, ?_, by simpa using h, Tch.refl _ _, fun g hg => .inl hg⟩
    rcases h.2 with ⟨rfl, rfl⟩ | ⟨g, cap, cur, rfl, _, _, hnc, _⟩
    · simp [Builtin.append_, run_underlying ht, sizeOf, typeInfo, hi, Builtin.lenOf, Builtin.firstCells]
    · simp [Builtin.append_, run_underlying ht, sizeOf, typeInfo, hi, Builtin.lenOf, Builtin.firstCells, hnc, storeCells]
  · have hcells : ∀ j u, news[j]? = some u → w.cell? (ad.add j) = some u := by
      intro j u hu
      have hj := (List.getElem?_eq_some_iff.1 hu).1
      rw [hl] at hj
      have hm : 0 < m := by
        rcases Nat.eq_zero_or_pos m with h0 | h0
        · subst h0; omega
        · exact h0
      obtain ⟨ad', he, hc⟩ := hsrc hm
      injection he with he
      subst he
      exact hc j u hu
    obtain ⟨v', w', hr, hown, hg, _, hloc⟩ := run_append_own_at (P := P) w 0 t ty e i z size bytes ht hi hz hsize hby hzs hsz v n xs h ad m c news hl hcells h1 h63 hbytes (Nat.zero_le _)
    refine ⟨v', w', hr, hown, (Tch.refl _ w).grown hg ?_, ?_⟩
    · intro k hk
      left
      rw [hk]
      simp
    · intro g hg'
      rcases hloc with hloc | hloc
      · exact .inl (hloc ▸ hg')
      · rw [hloc] at hg'
        injection hg' with hg'
        subst hg'
        right
        exact Nat.le_refl _
/-- What an append comes to, laid in at the operation. -/
theorem wpList_append_eq {P : Program} {w w1 : World} {ops : Array Oper} {rest : List Oper} {o : Oper} {a : Act} {Q : Exit → Act → World → Prop} (hg : o.guard = none) (s x : Operand) (t : TypeId)
    (ho : o.op = .call { callee := .builtin .append, args := #[s, x], argTypes := #[t, t] }) {v sl v' : Value} (hs : a.eval s = v) (hx : a.eval x = sl)
    (hr : (Builtin.append_ #[t, t] o.type #[v, sl]).run P w = .ok v' w1) (hK : wpList P ops Q rest (a.put o.dst v') w1) : wpList P ops Q (o :: rest) a w := by
  refine wpList_plain hg fun K' hK' => ?_
  unfold Oper.wp execOp
  simp only [ho, resolve, invoke, builtin, Sem.run_bind, Sem.run_pure, Result.andThen_ok, List.map_toArray, List.map_cons, List.map_nil, hs, hx, hr]
  exact hK' _ _ hK
theorem info_parts {P : Program} {e : TypeId} {z : Option Value} {size bytes : Nat} (h : (P.info? e).map (fun i => (i.zero, i.size, i.bytes)) = some (z, size, bytes)) :
    ∃ i, P.info? e = some i ∧ i.zero = z ∧ i.size = size ∧ i.bytes = bytes := by
  cases hi : P.info? e with
  | none => rw [hi] at h; simp at h
  | some i =>
    rw [hi] at h
    simp at h
    exact ⟨i, rfl, h.1, h.2.1, h.2.2⟩
end Go.Proofs.Ytclhgnlhejohgaa.Tc
