/- What the reference's numbers that came in come to, over the program. -/
import Derived.Test.YtapiaiobohkemaaIn
import Derived.Test.YtapiaiobohkemaaRow
import Derived.Deep.DeepMust
import Derived.Handy
set_option linter.unusedVariables false
set_option linter.unusedSimpArgs false
namespace Go.Proofs.Ytapiaiobohkemaa.InW
open Go.RowKit Go.Proofs.Ytapiaiobohkemaa.Tc InPure

def prs (L : List (Int × Int)) : List Value := L.flatMap fun x => [.int .i64 x.1, .int .i64 x.2]
theorem prs_append (a b : List (Int × Int)) : prs (a ++ b) = prs a ++ prs b := by simp [prs]
theorem prs_length (L : List (Int × Int)) : (prs L).length = L.length * 2 := by
  induction L with
  | nil => rfl
  | cons x l ih =>
    have : prs (x :: l) = .int .i64 x.1 :: .int .i64 x.2 :: prs l := rfl
    rw [this]
    simp [ih]
    omega
theorem prs_at {L : List (Int × Int)} {k : Nat} (h : k < L.length) : (prs L)[k * 2]? = some (.int .i64 L[k].1) ∧ (prs L)[k * 2 + 1]? = some (.int .i64 L[k].2) := by
  induction L generalizing k with
  | nil => simp at h
  | cons x l ih =>
    have e : prs (x :: l) = .int .i64 x.1 :: .int .i64 x.2 :: prs l := rfl
    rw [e]
    cases k with
    | zero => exact ⟨rfl, rfl⟩
    | succ k =>
      have := ih (k := k) (by simpa using h)
      rw [show (k + 1) * 2 = k * 2 + 1 + 1 by omega]
      exact this
theorem prs_drop (L : List (Int × Int)) (n : Nat) (h : n ≤ L.length) (j : Nat) : (prs (L.drop n))[j]? = (prs L)[n * 2 + j]? := by
  have e : prs L = prs (L.take n) ++ prs (L.drop n) := by rw [← prs_append, List.take_append_drop]
  rw [e, List.getElem?_append_right (by rw [prs_length]; simp; omega)]
  congr 1
  rw [prs_length]
  simp
  omega
theorem prs_take (L : List (Int × Int)) (n : Nat) (h : n ≤ L.length) {j : Nat} {u : Value} (hj : (prs (L.take n))[j]? = some u) : (prs L)[j]? = some u := by
  have e : prs L = prs (L.take n) ++ prs (L.drop n) := by rw [← prs_append, List.take_append_drop]
  rw [e, List.getElem?_append_left]
  · exact hj
  · exact (List.getElem?_eq_some_iff.1 hj).1
theorem prs_one (L : List (Int × Int)) : ∀ u ∈ prs L, u.oneCell' = true := by
  intro u hu
  unfold prs at hu
  obtain ⟨x, _, hx⟩ := List.mem_flatMap.1 hu
  simp at hx
  rcases hx with rfl | rfl <;> rfl

/-- A reference's In: its struct's block, its list. -/
structure RAt (w : World) (s : Nat) (v : Value) (most : Int) (L : List (Int × Int)) : Prop where
  st : w.heap[s]? = some (.cells #[.int .i64 most, v] 59 (0, 0))
  row : w.ownsRow 0 90 2 v L.length (prs L)
theorem RAt.kept {w w' : World} {s : Nat} {v : Value} {most : Int} {L : List (Int × Int)} {S : List Nat} (h : RAt w s v most L) (ht : Tch S w w') (hs : s ∉ S) (hv : ∀ g, v.ownBlock = some g → g ∉ S) : RAt w' s v most L :=
  ⟨(ht.block s (lt_of_block h.st) hs).trans h.st, own_kept h.row ht hv⟩
theorem RAt.drewN {w : World} {s : Nat} {v : Value} {most : Int} {L : List (Int × Int)} (h : RAt w s v most L) (n : Nat) : RAt (w.drewN n) s v most L :=
  h.kept ((Tch.refl [] w).drewN n) (by simp) (by simp)

/-- Where a number stands. -/
def Found (L : List (Int × Int)) (i r : Int) : Prop := (r = -1 ∧ getQ L i = 0) ∨ ∃ k : Nat, r = k ∧ ∃ h : k < L.length, L[k].1 = i ∧ getQ L i = L[k].2
set_option maxHeartbeats 1000000 in
theorem find_any (w : World) (s : Nat) (v : Value) (most : Int) (L : List (Int × Int)) (h : RAt w s v most L) (i : Int) :
    Calls Try.prog 55 #[.pointer (some ⟨s, 0, none⟩), .int .i64 i] w fun e w' => (∃ r, Found L i r ∧ e = .returned (.int .i64 r)) ∧ w = w' := by
  have c1 : w.cell? ⟨s, 1, none⟩ = some v := cell_of h.st rfl
  have hm := own_le h.row
  unfold maxLen at hm
  have HR := Lib.hid h.row
  obtain ⟨A, c, rfl⟩ := own_form h.row
  clear h
  go_enter Try.func55, Try.ntmps55
  go_wp2
  go_loop [5] (fun x => ∃ k : Nat, k ≤ L.length ∧ (∀ j (hj : j < k) (hl : j < L.length), L[j].1 ≠ i) ∧ x = .int .i64 k) (fun x => L.length - (intOf x).toNat)
  case atStart => exact ⟨0, by omega, by intro j hj; omega, rfl⟩
  case round =>
    obtain ⟨k, hk, hn, rfl⟩ := hrel
    have HN := Lib.hid hn
    clear hn
    by_cases hlt : k < L.length
    · obtain ⟨g, c', hv, -, hcell⟩ := own_cells HR.out (by omega)
      injection hv with hA _ _
      subst hA
      have hck := hcell (k * 2) _ (prs_at hlt).1
      clear hcell
      by_cases he : L[k].1 = i
      · have hb : (L[k].1 == i) = true := by simpa using he
        have HF := Lib.hid (show Found L i k from .inr ⟨k, rfl, hlt, he, findAt_some hlt he fun j hj => HN.out j hj (by omega)⟩)
        clear he
        go_wp2
        go_ret
        exact ⟨⟨_, HF.out, rfl⟩, rfl⟩
      · have hb : (L[k].1 == i) = false := by simpa using he
        have HE := Lib.hid he
        clear he
        go_wp2
        go_round
        case rel =>
          refine ⟨k + 1, by omega, ?_, by go_num⟩
          intro j hj hl
          by_cases e : j = k
          · subst e; exact HE.out
          · exact HN.out j (by omega) hl
        case measure => simp [intOf]; omega
    · obtain rfl : k = L.length := by omega
      have HF := Lib.hid (show Found L i (-1) from .inl ⟨rfl, findAt_none fun j hj => HN.out j hj hj⟩)
      go_wp2
      go_ret
      exact ⟨⟨_, HF.out, rfl⟩, rfl⟩

theorem info90 : (Try.prog.info? 90).map (fun i => (i.zero, i.size, i.bytes)) = some (some (.agg #[.int .i64 0, .int .i64 0]), 2, 16) := by kernel_rfl
theorem append_pair {w : World} {v : Value} {L : List (Int × Int)} (h : w.ownsRow 0 90 2 v L.length (prs L)) (x : Int × Int) (hl : L.length < 1000000) (ty : TypeId) :
    ∃ v' w', (Builtin.append_ #[57, 57] ty #[v, .slice (some ⟨w.heap.size, 0, none⟩) 1 1]).run Try.prog (w.alloc (.cells #[.int .i64 x.1, .int .i64 x.2] 90)) = .ok v' w' ∧ w'.ownsRow 0 90 2 v' (L ++ [x]).length (prs (L ++ [x])) ∧
      Tch v.ownBlock.toList w w' ∧ (∀ g, v'.ownBlock = some g → v.ownBlock = some g ∨ w.heap.size ≤ g) ∧ w.heap.size < w'.heap.size := by
  obtain ⟨i0, hi, hz0, hz1, hz2⟩ := Tc.info_parts info90
  obtain ⟨v', w', hr, hown, ht, hloc, hs⟩ := append_one (P := Try.prog) (ty := ty) Try.underlying57 hi hz0 hz1 hz2 rfl (by decide) h [.int .i64 x.1, .int .i64 x.2] rfl (by simp [Value.oneCell']) (by unfold maxLen; omega) (by omega)
  refine ⟨v', w', hr, ?_, ht, hloc, hs⟩
  have e1 : (L ++ [x]).length = L.length + 1 := by simp
  have e2 : prs (L ++ [x]) = prs L ++ [.int .i64 x.1, .int .i64 x.2] := by simp [prs]
  rw [e1, e2]
  exact hown
/-- A part of another list behind a list. -/
theorem append_part {w : World} {v : Value} {L M : List (Int × Int)} (h : w.ownsRow 0 90 2 v L.length (prs L)) (g o c : Nat) (hM : ∀ j u, (prs M)[j]? = some u → w.cell? ⟨g, o + j, none⟩ = some u) (hl : L.length < 1000000) (hl2 : M.length < 1000000) (ty : TypeId) :
    ∃ v' w', (Builtin.append_ #[57, 57] ty #[v, .slice (some ⟨g, o, none⟩) M.length c]).run Try.prog w = .ok v' w' ∧ w'.ownsRow 0 90 2 v' (L ++ M).length (prs (L ++ M)) ∧
      Tch v.ownBlock.toList w w' ∧ (∀ g, v'.ownBlock = some g → v.ownBlock = some g ∨ w.heap.size ≤ g) := by
  obtain ⟨i0, hi, hz0, hz1, hz2⟩ := Tc.info_parts info90
  obtain ⟨v', w', hr, hown, hg, _, hloc⟩ := run_append_own_at (P := Try.prog) w 0 57 ty 90 i0 _ 2 16 Try.underlying57 hi hz0 hz1 hz2 rfl (by decide) v L.length (prs L) h
    ⟨g, o, none⟩ M.length c (prs M) (prs_length M) (fun j u hu => by
      have hadd : (⟨g, o, none⟩ : Addr).add j = ⟨g, o + j, none⟩ := by unfold Addr.add; split <;> simp_all
      rw [hadd]
      exact hM j u hu) (prs_one M) (by unfold maxLen; omega) (by omega) (Nat.zero_le _)
  refine ⟨v', w', hr, ?_, ?_, ?_⟩
  · rw [List.length_append, prs_append]
    exact hown
  · refine (Tch.refl _ w).grown hg ?_
    intro k hk
    left
    rw [hk]
    simp
  · intro g hg'
    rcases hloc with hloc | hloc
    · exact .inl (hloc ▸ hg')
    · rw [hloc] at hg'
      injection hg' with hg'
      right
      omega

/-- What a store of the list leaves. -/
theorem RAt.put {w w1 : World} {s : Nat} {v v' : Value} {most : Int} {L L' : List (Int × Int)} {S : List Nat} (h : RAt w s v most L) (ht : Tch S w w1) (hS : s ∉ S) (hown : w1.ownsRow 0 90 2 v' L'.length (prs L'))
    (hloc : ∀ g, v'.ownBlock = some g → v.ownBlock = some g ∨ w.heap.size ≤ g) : RAt (w1.setCell ⟨s, 1, none⟩ v') s v' most L' ∧ Tch (s :: S) w (w1.setCell ⟨s, 1, none⟩ v') := by
  have hst := (ht.block s (lt_of_block h.st) hS).trans h.st
  refine ⟨⟨by have := set_of hst 1 v'; simpa using this, ?_⟩, (ht.mono (fun i hi => by simp [hi])).setCell (.inl (by simp)) _⟩
  refine own_kept (S := [s]) hown ((Tch.refl _ _).setCell (.inl (by simp)) _) ?_
  intro g hg hm
  have : g = s := by simpa using hm
  subst this
  rcases hloc g hg with h1 | h1
  · exact own_type_ne h.row h.st (by decide) g h1 rfl
  · have := lt_of_block h.st; omega

set_option maxHeartbeats 2000000 in
theorem drop_any (w : World) (s : Nat) (v : Value) (most : Int) (L : List (Int × Int)) (h : RAt w s v most L) (hlen : L.length < 1000000) (k : Nat) (hk : k < L.length) :
    Calls Try.prog 56 #[.pointer (some ⟨s, 0, none⟩), .int .i64 k] w fun e w' => e = .returned (.tuple #[]) ∧
      ∃ v', RAt w' s v' most (L.take k ++ L.drop (k + 1)) ∧ Tch [s] w w' ∧ ∀ g, v'.ownBlock = some g → w.heap.size ≤ g := by
  have HA := Lib.hid h
  have c1 : w.cell? ⟨s, 1, none⟩ = some v := cell_of h.st rfl
  obtain ⟨g, c, rfl, -, hcell⟩ := own_cells h.row (by omega)
  obtain ⟨v1, w1, hr1, hown1, ht1, hloc1⟩ := append_part (own_nil w 90 2) (L := []) (M := L.take k) g 0 c (fun j u hu => by rw [Nat.zero_add]; exact hcell j u (prs_take L k (by omega) hu)) (by simp) (by simp; omega) 57
  have ht1' : Tch [] w w1 := ht1.mono (by simp [Value.ownBlock])
  rw [List.nil_append] at hown1
  have hst1 := (ht1'.block s (lt_of_block h.st) (by simp)).trans h.st
  have d1 : w1.cell? ⟨s, 1, none⟩ = some (.slice (some ⟨g, 0, none⟩) L.length c) := cell_of hst1 rfl
  have hrow1 := own_kept h.row ht1' (by simp)
  obtain ⟨g2, c2, hv2, -, hcell2⟩ := own_cells hrow1 (by omega)
  injection hv2 with hA2 _ hC2
  injection hA2 with hA2
  injection hA2 with hA2
  subst hA2
  subst hC2
  have hcle : L.length ≤ c := by
    rcases h.row.2 with ⟨h1, _⟩ | ⟨g', cap, cur, h1, _, _, h2, _⟩
    · cases h1
    · injection h1 with _ _ h1
      omega
  have hcm : c ≤ maxLen := by
    rcases h.row.2 with ⟨h1, _⟩ | ⟨g', cap, cur, h1, _, _, h2, h3, _⟩
    · cases h1
    · injection h1 with _ _ h1
      omega
  unfold maxLen at hcm
  obtain ⟨v2, w2, hr2, hown2, ht2, hloc2⟩ := append_part hown1 (M := L.drop (k + 1)) g (if c = k + 1 then 0 else (k + 1) * 2) (c - (k + 1)) (fun j u hu => by
    by_cases hck : c = k + 1
    · rw [List.drop_eq_nil_of_le (by omega)] at hu
      simp [prs] at hu
    · rw [if_neg hck]
      exact hcell2 _ u (by rw [← prs_drop L (k + 1) (by omega)]; exact hu)) (by simp; omega) (by simp; omega) 57
  have hg1 : ∀ b, v1.ownBlock = some b → w.heap.size ≤ b := by
    intro b hb
    rcases hloc1 b hb with h' | h'
    · simp [Value.ownBlock] at h'
    · exact h'
  have ht3 : Tch [] w w2 := ht1'.then ht2 (fun j hj => .inr (hg1 j (by simpa using hj)))
  have hg2 : ∀ b, v2.ownBlock = some b → w.heap.size ≤ b := by
    intro b hb
    rcases hloc2 b hb with h' | h'
    · exact hg1 b h'
    · exact Nat.le_trans ht1'.size h'
  have hst2 := (ht3.block s (lt_of_block h.st) (by simp)).trans h.st
  have f2 := free_of hst2 1
  have hcc : ∃ ov, w2.cell? ⟨s, 1, none⟩ = some ov := ⟨_, cell_of hst2 rfl⟩
  have hput := h.put ht3 (by simp) hown2 (fun b hb => .inr (hg2 b hb))
  obtain ⟨ov, d2⟩ := hcc
  obtain ⟨A1, n1, rfl⟩ := own_form hown1
  obtain ⟨A2, n2, rfl⟩ := own_form hown2
  have e1 : (L.take k).length = k := by simp; omega
  have e2 : (L.drop (k + 1)).length = L.length - (k + 1) := by simp
  have HG2 := Lib.hid hg2
  have HP := Lib.hid hput
  rw [e1] at hr1
  rw [e1, e2] at hr2
  have HR1 := Lib.hid hr1
  clear hr1 hown1 hown2 ht1 hloc1 ht1' hst1 hrow1 hcell hcell2 ht2 hloc2 hg1 ht3 hg2 hst2 hput h
  by_cases hck : c = k + 1
  · rw [if_pos hck, show c - (k + 1) = 0 by omega, show L.length - (k + 1) = 0 by omega] at hr2
    subst hck
    have HR2 := Lib.hid hr2
    clear hr2
    go_enter Try.func56, Try.ntmps56
    go_wp2_with (at_builtin; first | ((with_reducible show wpList _ _ _ _ _ w); refine wpList_append_eq rfl _ _ _ rfl rfl rfl HR1.out ?_) | ((with_reducible show wpList _ _ _ _ _ w1); refine wpList_append_eq rfl _ _ _ rfl rfl rfl HR2.out ?_))
    go_returns
    have hp := HP.out
    have hgg := HG2.out
    rw [show (List.take k L ++ List.drop (k + 1) L).length = k by simp; omega] at hp hgg
    exact ⟨rfl, _, hp.1, hp.2, hgg⟩
  · rw [if_neg hck] at hr2
    have HR2 := Lib.hid hr2
    clear hr2
    go_enter Try.func56, Try.ntmps56
    go_wp2_with (at_builtin; first | ((with_reducible show wpList _ _ _ _ _ w); refine wpList_append_eq rfl _ _ _ rfl rfl rfl HR1.out ?_) | ((with_reducible show wpList _ _ _ _ _ w1); refine wpList_append_eq rfl _ _ _ rfl rfl rfl HR2.out ?_))
    go_returns
    have hp := HP.out
    have hgg := HG2.out
    rw [show (List.take k L ++ List.drop (k + 1) L).length = k + (L.length - (k + 1)) by simp; omega] at hp hgg
    exact ⟨rfl, _, hp.1, hp.2, hgg⟩
end Go.Proofs.Ytapiaiobohkemaa.InW
