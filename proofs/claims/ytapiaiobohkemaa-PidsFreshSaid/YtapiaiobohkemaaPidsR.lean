/- What the reference's numbers of packets come to, over the program. -/
import Derived.Test.YtapiaiobohkemaaPids
import Derived.Test.YtapiaiobohkemaaRow
import Derived.Deep.DeepMust
set_option linter.unusedVariables false
set_option linter.unusedSimpArgs false
namespace Go.Proofs.Ytapiaiobohkemaa.PidsW
open Go.RowKit Go.Proofs.Ytapiaiobohkemaa.Tc PidsPure

def ints (L : List Int) : List Value := L.map (Value.int .i64)
theorem ints_at {L : List Int} {k : Nat} (h : k < L.length) : (ints L)[k]? = some (.int .i64 L[k]) := by
  unfold ints
  rw [List.getElem?_map, List.getElem?_eq_getElem h]; rfl
/-- A reference's Pids: its struct's block, its list. -/
structure RAt (w : World) (s : Nat) (v : Value) (most last : Int) (L : List Int) : Prop where
  st : w.heap[s]? = some (.cells #[.int .i64 most, .int .i64 last, v] 49 (0, 0))
  row : w.ownsRow 0 3 1 v L.length (ints L)
theorem RAt.kept {w w' : World} {s : Nat} {v : Value} {most last : Int} {L : List Int} {S : List Nat} (h : RAt w s v most last L) (ht : Tch S w w') (hs : s ∉ S) (hv : ∀ g, v.ownBlock = some g → g ∉ S) : RAt w' s v most last L :=
  ⟨(ht.block s (lt_of_block h.st) hs).trans h.st, own_kept h.row ht hv⟩

theorem ris_any (w : World) (s : Nat) (v : Value) (most last : Int) (L : List Int) (h : RAt w s v most last L) (i : Int) :
    Calls Try.prog 29 #[.pointer (some ⟨s, 0, none⟩), .int .i64 i] w fun e w' => e = .returned (.bool (decide (i ∈ L))) ∧ w = w' := by
  have c2 : w.cell? ⟨s, 2, none⟩ = some v := cell_of h.st rfl
  have hm := own_le h.row
  unfold maxLen at hm
  have HR := Lib.hid h.row
  obtain ⟨A, c, rfl⟩ := own_form h.row
  clear h
  go_enter Try.func29, Try.ntmps29
  go_wp2
  go_loop [5] (fun x => ∃ k : Nat, k ≤ L.length ∧ i ∉ L.take k ∧ x = .int .i64 k) (fun x => L.length - (intOf x).toNat)
  case atStart => exact ⟨0, by omega, by simp, rfl⟩
  case round =>
    obtain ⟨k, hk, hn, rfl⟩ := hrel
    have HN := Lib.hid hn
    clear hn
    by_cases hlt : k < L.length
    · obtain ⟨g, c', hv, -, hcell⟩ := own_cells HR.out (by omega)
      injection hv with hA _ _
      subst hA
      have hck := hcell k _ (ints_at hlt)
      clear hcell
      by_cases he : L[k] = i
      · have hb : (L[k] == i) = true := by simpa using he
        have hin : i ∈ L := he ▸ List.getElem_mem hlt
        have HD := Lib.hid (decide_eq_true hin)
        clear he hin
        go_wp2
        go_ret
        exact ⟨ret_bool HD.out.symm, rfl⟩
      · have hb : (L[k] == i) = false := by simpa using he
        have HE := Lib.hid he
        clear he
        go_wp2
        go_round
        case rel =>
          refine ⟨k + 1, by omega, ?_, by go_num⟩
          rw [List.take_succ_eq_append_getElem hlt, List.mem_append]
          rintro (h | h)
          · exact HN.out h
          · exact HE.out (by have h' : i = L[k] := by simpa using h
                             exact h'.symm)
        case measure => simp [intOf]; omega
    · obtain rfl : k = L.length := by omega
      go_wp2
      go_ret
      refine ⟨ret_bool ?_, rfl⟩
      have := HN.out
      rw [List.take_length] at this
      rw [decide_eq_false this]

theorem rnew_any (w : World) (n : Int) (h1 : (Lit.int .i64 n).wf = true) :
    Calls Try.prog 22 #[.int .i64 n] w fun e w' => e = .returned (.pointer (some ⟨w.heap.size, 0, none⟩)) ∧ RAt w' w.heap.size (.slice none 0 0) (max 0 (min n 65535)) 0 [] ∧ Below w.heap.size w w' := by
  have hb := fun k : Int => ((Below.refl w.heap.size w).alloc (Nat.le_refl _) (.cells #[.int .i64 k, .int .i64 0, .slice none 0 0] 49))
  have hn := fun k : Int => RAt.mk (w := w.alloc (.cells #[.int .i64 k, .int .i64 0, .slice none 0 0] 49)) (s := w.heap.size) (v := .slice none 0 0) (most := k) (last := 0) (L := []) (heap_alloc_new w _) (own_nil _ _ _)
  have HB := Lib.hid hb
  have HN := Lib.hid hn
  clear hb hn
  by_cases h65 : n ≤ 65535
  · by_cases h0 : 0 < n
    · rw [show max 0 (min n 65535) = n by omega]
      go_enter Try.func22, Try.ntmps22
      go_wp2
      go_ret
      exact ⟨rfl, HN.out _, HB.out _⟩
    · rw [show max 0 (min n 65535) = 0 by omega]
      go_enter Try.func22, Try.ntmps22
      go_wp2
      go_ret
      exact ⟨rfl, HN.out _, HB.out _⟩
  · rw [show max 0 (min n 65535) = 65535 by omega]
    go_enter Try.func22, Try.ntmps22
    go_wp2
    go_ret
    exact ⟨rfl, HN.out _, HB.out _⟩

theorem ruse_no (w : World) (s : Nat) (v : Value) (most last : Int) (L : List Int) (h : RAt w s v most last L) (i : Int) (hu : ¬ (1 ≤ i ∧ i ≤ most ∧ i ∉ L)) :
    Calls Try.prog 25 #[.pointer (some ⟨s, 0, none⟩), .int .i64 i] w fun e w' => e = .returned (.bool false) ∧ w = w' := by
  have c0 : w.cell? ⟨s, 0, none⟩ = some (.int .i64 most) := cell_of h.st rfl
  have hi := ris_any w s v most last L h i
  clear h
  by_cases h1 : 1 ≤ i
  · by_cases h2 : i ≤ most
    · have h3 : decide (i ∈ L) = true := by
        by_cases h3 : i ∈ L
        · simpa using h3
        · exact absurd ⟨h1, h2, h3⟩ hu
      rw [h3] at hi
      have HI := Lib.hid hi
      clear hu h3 hi
      go_enter Try.func25, Try.ntmps25
      go_wp2_with (go_at_call 29; refine (HI.out).mono ?_; rintro e w' ⟨rfl, rfl⟩)
      go_ret
      exact ⟨rfl, rfl⟩
    · clear hu hi
      go_enter Try.func25, Try.ntmps25
      go_wp2
      go_ret
      exact ⟨rfl, rfl⟩
  · clear hu hi
    go_enter Try.func25, Try.ntmps25
    go_wp2
    go_ret
    exact ⟨rfl, rfl⟩

theorem info3 : (Try.prog.info? 3).map (fun i => (i.zero, i.size, i.bytes)) = some (some (.int .i64 0), 1, 8) := by kernel_rfl
theorem append_int {w : World} {v : Value} {L : List Int} (h : w.ownsRow 0 3 1 v L.length (ints L)) (i : Int) (hl : L.length < 1000000) (ty : TypeId) :
    ∃ v' w', (Builtin.append_ #[47, 47] ty #[v, .slice (some ⟨w.heap.size, 0, none⟩) 1 1]).run Try.prog (w.alloc (.cells #[.int .i64 i] 3)) = .ok v' w' ∧ w'.ownsRow 0 3 1 v' (L ++ [i]).length (ints (L ++ [i])) ∧
      Tch v.ownBlock.toList w w' ∧ (∀ g, v'.ownBlock = some g → v.ownBlock = some g ∨ w.heap.size ≤ g) ∧ w.heap.size < w'.heap.size := by
  obtain ⟨i0, hi, hz0, hz1, hz2⟩ := Tc.info_parts info3
  obtain ⟨v', w', hr, hown, ht, hloc, hs⟩ := append_one (P := Try.prog) (ty := ty) Try.underlying47 hi hz0 hz1 hz2 rfl (by decide) h [.int .i64 i] rfl (by simp [Value.oneCell']) (by unfold maxLen; omega) (by omega)
  refine ⟨v', w', hr, ?_, ht, hloc, hs⟩
  have e1 : (L ++ [i]).length = L.length + 1 := by simp
  have e2 : ints (L ++ [i]) = ints L ++ [.int .i64 i] := by simp [ints]
  rw [e1, e2]
  exact hown

/-- What a store of the list leaves. -/
theorem RAt.put {w w1 : World} {s : Nat} {v v' : Value} {most last : Int} {L L' : List Int} (h : RAt w s v most last L) (ht : Tch v.ownBlock.toList w w1) (hown : w1.ownsRow 0 3 1 v' L'.length (ints L'))
    (hloc : ∀ g, v'.ownBlock = some g → v.ownBlock = some g ∨ w.heap.size ≤ g) : RAt (w1.setCell ⟨s, 2, none⟩ v') s v' most last L' ∧ Tch (s :: v.ownBlock.toList) w (w1.setCell ⟨s, 2, none⟩ v') := by
  have hne : s ∉ v.ownBlock.toList := by
    intro hm
    have : v.ownBlock = some s := by simpa using hm
    exact own_type_ne h.row h.st (by decide) s this rfl
  have hst := (ht.block s (lt_of_block h.st) hne).trans h.st
  refine ⟨⟨by have := set_of hst 2 v'; simpa using this, ?_⟩, (ht.mono (fun i hi => by simp [hi])).setCell (.inl (by simp)) _⟩
  refine own_kept (S := [s]) hown ((Tch.refl _ _).setCell (.inl (by simp)) _) ?_
  intro g hg hm
  have : g = s := by simpa using hm
  subst this
  rcases hloc g hg with h1 | h1
  · exact own_type_ne h.row h.st (by decide) g h1 rfl
  · have := lt_of_block h.st; omega
theorem RAt.last {w : World} {s : Nat} {v : Value} {most last : Int} {L : List Int} (h : RAt w s v most last L) (c : Int) : RAt (w.setCell ⟨s, 1, none⟩ (.int .i64 c)) s v most c L :=
  ⟨by have := set_of h.st 1 (.int .i64 c); simpa using this, own_kept (S := [s]) h.row ((Tch.refl _ _).setCell (.inl (by simp)) _) (fun g hg hm => own_type_ne h.row h.st (by decide) g hg (by simpa using hm))⟩

theorem ruse_yes (w : World) (s : Nat) (v : Value) (most last : Int) (L : List Int) (h : RAt w s v most last L) (hlen : L.length < 1000000) (i : Int) (h1 : 1 ≤ i) (h2 : i ≤ most) (h3 : i ∉ L) :
    Calls Try.prog 25 #[.pointer (some ⟨s, 0, none⟩), .int .i64 i] w fun e w' => e = .returned (.bool true) ∧ ∃ v', RAt w' s v' most last (L ++ [i]) ∧ Tch (s :: v.ownBlock.toList) w w' ∧ ∀ g, v'.ownBlock = some g → v.ownBlock = some g ∨ w.heap.size ≤ g := by
  have c0 : w.cell? ⟨s, 0, none⟩ = some (.int .i64 most) := cell_of h.st rfl
  have c2 : w.cell? ⟨s, 2, none⟩ = some v := cell_of h.st rfl
  have hi := ris_any w s v most last L h i
  rw [decide_eq_false h3] at hi
  obtain ⟨v', w1, hr, hown, ht, hloc, hs⟩ := append_int h.row i hlen 47
  have hput := h.put ht hown hloc
  obtain ⟨A', c', rfl⟩ := own_form hown
  rw [show (L ++ [i]).length = L.length + 1 by simp] at hput hr
  have hne : s ∉ v.ownBlock.toList := by
    intro hm
    exact own_type_ne h.row h.st (by decide) s (by simpa using hm) rfl
  have hst := (ht.block s (lt_of_block h.st) hne).trans h.st
  have d2 : w1.cell? ⟨s, 2, none⟩ = some v := cell_of hst rfl
  have f2 := free_of hst 2
  have HI := Lib.hid hi
  have HP := Lib.hid hput
  have HL := Lib.hid hloc
  clear hi hput hloc hown ht hne hst hlen h h3 hs
  go_enter Try.func25, Try.ntmps25
  have HR := Lib.hid hr
  clear hr
  go_wp2_with (first | (go_at_call 29; refine (HI.out).mono ?_; rintro e w' ⟨rfl, rfl⟩) | (at_builtin; refine wpList_append_eq rfl _ _ _ rfl rfl rfl HR.out ?_))
  go_ret
  exact ⟨rfl, _, HP.out.1, HP.out.2, fun g hg => HL.out g (by simpa [Value.ownBlock] using hg)⟩

theorem filter_snoc {L : List Int} {k : Nat} (h : k < L.length) (p : Int → Bool) : (L.take (k + 1)).filter p = (L.take k).filter p ++ if p L[k] then [L[k]] else [] := by
  rw [List.take_succ_eq_append_getElem h, List.filter_append]
  congr 1
  by_cases hp : p L[k] <;> simp [hp]
theorem filter_le (L : List Int) (k : Nat) (p : Int → Bool) : ((L.take k).filter p).length ≤ L.length := by
  have h1 := List.length_filter_le p (L.take k)
  have h2 : (L.take k).length ≤ L.length := by simp; omega
  omega

set_option maxHeartbeats 1000000 in
theorem rfree_any (w : World) (s : Nat) (v : Value) (most last : Int) (L : List Int) (h : RAt w s v most last L) (hlen : L.length < 1000000) (i : Int) :
    Calls Try.prog 26 #[.pointer (some ⟨s, 0, none⟩), .int .i64 i] w fun e w' => e = .returned (.bool (decide ((L.filter fun j => !decide (j = i)).length < L.length))) ∧
      ∃ v', RAt w' s v' most last (L.filter fun j => !decide (j = i)) ∧ Tch [s] w w' ∧ ∀ g, v'.ownBlock = some g → w.heap.size ≤ g := by
  have HA := Lib.hid h
  have c2 : w.cell? ⟨s, 2, none⟩ = some v := cell_of h.st rfl
  obtain ⟨A, c, rfl⟩ := own_form h.row
  clear h
  go_enter Try.func26, Try.ntmps26
  go_wp2
  go_loopw [5, 6] (fun o x wr => ∃ k : Nat, k ≤ L.length ∧ x = .int .i64 k ∧ wr.ownsRow 0 3 1 o ((L.take k).filter fun j => !decide (j = i)).length (ints ((L.take k).filter fun j => !decide (j = i))) ∧ Tch [] w wr ∧ ∀ g, o.ownBlock = some g → w.heap.size ≤ g)
    (fun _ x _ => L.length - (intOf x).toNat)
  case atStart => exact ⟨0, by omega, rfl, own_nil _ _ _, Tch.refl _ _, fun g hg => by simp [Value.ownBlock] at hg⟩
  case round =>
    obtain ⟨k, hk, rfl, hown, ht, hg⟩ := hrel
    have hst := (ht.block s (lt_of_block HA.out.st) (by simp)).trans HA.out.st
    have d2 : wr.cell? ⟨s, 2, none⟩ = some (.slice A L.length c) := cell_of hst rfl
    have hle := filter_le L k (fun j => !decide (j = i))
    have f2 := free_of hst 2
    generalize hF : ((L.take k).filter fun j => !decide (j = i)) = F at hown hle
    have HF := Lib.hid hF
    have HO := Lib.hid hown
    have HG := Lib.hid hg
    have HT := Lib.hid ht
    have HS := Lib.hid hst
    obtain ⟨A1, n1, rfl⟩ := own_form hown
    by_cases hlt : k < L.length
    · obtain ⟨g, c', hv, -, hcell⟩ := own_cells HA.out.row (by omega)
      injection hv with hA _ _
      subst hA
      have hrow := own_kept HA.out.row ht (fun _ _ => by simp)
      obtain ⟨g2, c2', hv2, -, hcell2⟩ := own_cells hrow (by omega)
      injection hv2 with hA2 _ _
      injection hA2 with hA2
      injection hA2 with hA2
      subst hA2
      have hck := hcell2 k _ (ints_at hlt)
      have hck1 := hcell k _ (ints_at hlt)
      clear hcell hcell2 hF hrow hst hg ht
      by_cases he : L[k] = i
      · have hb : (L[k] != i) = false := by simpa using he
        have HE := Lib.hid he
        clear he hown
        go_wp2
        go_roundw
        case rel =>
          refine ⟨k + 1, by omega, by go_num, ?_, HT.out, HG.out⟩
          rw [filter_snoc hlt, HF.out]
          simp only [HE.out, decide_true, Bool.not_true, Bool.false_eq_true, if_false, List.append_nil]
          exact HO.out
        case measure => simp [intOf]; omega
      · have hb : (L[k] != i) = true := by simpa using he
        have HE := Lib.hid he
        obtain ⟨v', w1, hr, hown', ht', hloc, hs⟩ := append_int hown L[k] (by omega) 47
        obtain ⟨A', c', rfl⟩ := own_form hown'
        rw [show (F ++ [L[k]]).length = F.length + 1 by simp] at hr hown'
        have HR := Lib.hid hr
        have HO' := Lib.hid hown'
        have HT' := Lib.hid ht'
        have HL := Lib.hid hloc
        clear he hr hown' ht' hloc hown
        go_wp2_with (at_builtin; refine wpList_append_eq rfl _ _ _ rfl rfl rfl HR.out ?_)
        go_roundw
        case rel =>
          refine ⟨k + 1, by omega, by go_num, ?_, ?_, ?_⟩
          · rw [filter_snoc hlt, HF.out]
            simp only [HE.out, decide_false, Bool.not_false, if_true]
            rw [show (F ++ [L[k]]).length = F.length + 1 by simp]
            exact HO'.out
          · exact HT.out.then HT'.out (fun j hj => .inr (HG.out j (by simpa using hj)))
          · intro g hg
            rcases HL.out g (by simpa [Value.ownBlock] using hg) with h1 | h1
            · exact HG.out g (by simpa [Value.ownBlock] using h1)
            · exact Nat.le_trans HT.out.size h1
        case measure => simp [intOf]; omega
    · obtain rfl : k = L.length := by omega
      rw [List.take_length] at hF
      have hput : RAt (wr.setCell ⟨s, 2, none⟩ (.slice A1 F.length n1)) s (.slice A1 F.length n1) most last F ∧ Tch [s] w (wr.setCell ⟨s, 2, none⟩ (.slice A1 F.length n1)) := by
        refine ⟨⟨by have := set_of hst 2 (.slice A1 F.length n1); simpa using this, own_kept (S := [s]) hown ((Tch.refl _ _).setCell (.inl (by simp)) _) ?_⟩, (ht.mono (by simp)).setCell (.inl (by simp)) _⟩
        intro g hg' hm
        have e : g = s := by simpa using hm
        have := hg g hg'
        have := lt_of_block HA.out.st
        omega
      have HP := Lib.hid hput
      clear hF hst hg ht hput hown
      go_wp2
      go_ret
      rw [show (L.filter fun j => !decide (j = i)) = F from by have := HF.out; rwa [List.take_length] at this]
      exact ⟨rfl, _, HP.out.1, HP.out.2, HG.out⟩

theorem RAt.drewN {w : World} {s : Nat} {v : Value} {most last : Int} {L : List Int} (h : RAt w s v most last L) (n : Nat) : RAt (w.drewN n) s v most last L :=
  h.kept ((Tch.refl [] w).drewN n) (by simp) (by simp)

theorem rnext_full (w : World) (s : Nat) (v : Value) (most last : Int) (L : List Int) (h : RAt w s v most last L) (hf : most ≤ L.length) :
    Calls Try.prog 24 #[.pointer (some ⟨s, 0, none⟩)] w fun e w' => e = .returned (.tuple #[.int .i64 0, .bool false]) ∧ ∃ n, w' = w.drewN n := by
  have c0 : w.cell? ⟨s, 0, none⟩ = some (.int .i64 most) := cell_of h.st rfl
  have c2 : w.cell? ⟨s, 2, none⟩ = some v := cell_of h.st rfl
  obtain ⟨A, c, rfl⟩ := own_form h.row
  have hd : decide (most ≤ (L.length : Int)) = true := by simpa using hf
  clear h hf
  go_enter Try.func24, Try.ntmps24
  go_wp2
  go_quiet (fail)
  go_wp2
  go_ret2
  exact ⟨rfl, _, rfl⟩

set_option maxHeartbeats 2000000 in
theorem rnext_yes (k : Nat) (w : World) (s : Nat) (v : Value) (most last : Int) (L : List Int) (h : RAt w s v most last L) (I : Inv most last L) (hf : L.length < most) (hk : (k : Int) < most)
    (hin : ∀ j, j < k → cand most last j ∈ L) (hout : cand most last k ∉ L) :
    Calls Try.prog 24 #[.pointer (some ⟨s, 0, none⟩)] w fun e w' => e = .returned (.tuple #[.int .i64 (cand most last k), .bool true]) ∧
      ∃ v', RAt w' s v' most (cand most last k) (L ++ [cand most last k]) ∧ Tch (s :: v.ownBlock.toList) w w' ∧ ∀ g, v'.ownBlock = some g → v.ownBlock = some g ∨ w.heap.size ≤ g := by
  have HA := Lib.hid h
  have c0 : w.cell? ⟨s, 0, none⟩ = some (.int .i64 most) := cell_of h.st rfl
  have c1 : w.cell? ⟨s, 1, none⟩ = some (.int .i64 last) := cell_of h.st rfl
  have c2 : w.cell? ⟨s, 2, none⟩ = some v := cell_of h.st rfl
  obtain ⟨A, c, rfl⟩ := own_form h.row
  have hd : decide (most ≤ (L.length : Int)) = false := by simpa using hf
  have HI := Lib.hid I
  have HIN := Lib.hid hin
  have HOUT := Lib.hid hout
  clear h I hin hout
  go_enter Try.func24, Try.ntmps24
  go_wp2
  go_quiet (fail)
  go_wp2
  go_loopw [4] (fun x wr => ∃ j : Nat, j ≤ k ∧ x = .int .i64 j ∧ ∃ n, wr = w.drewN n) (fun x _ => k + 1 - (intOf x).toNat)
  case atStart => exact ⟨0, by omega, rfl, _, rfl⟩
  case round =>
    obtain ⟨j, hj, rfl, n, rfl⟩ := hrel
    clear hd
    have hl0 := HI.out.l0
    have hl1 := HI.out.l1
    have hm1 := HI.out.m1
    have hc0 : 0 ≤ (last + j) % most := Int.emod_nonneg _ (by omega)
    have hc1 : (last + j) % most < most := Int.emod_lt_of_pos _ (by omega)
    have hm2 : ¬ most = 0 := by omega
    have hm3 : (last + j).tmod most = (last + j) % most := Int.tmod_eq_emod_of_nonneg (by omega)
    have hm4 : IntKind.i64.wrap ((last + j) % most + 1) = (last + j) % most + 1 := IntWalk.i64_in _ (by omega)
    have hm5 : IntKind.i64.wrap (last + j) = last + j := IntWalk.i64_in _ (by omega)
    by_cases hjk : j < k
    · have hc := HIN.out j hjk
      have hcall := fun m => ris_any (w.drewN m) s _ most last L (HA.out.drewN m) (cand most last j)
      rw [decide_eq_true hc] at hcall
      unfold cand at hcall
      have HC := Lib.hid hcall
      clear hc hcall
      go_wp2
      go_quiet (fail)
      clear hm3 hm4 hm5
      go_wp2_with fail
      refine (HC.out _).mono ?_
      rintro e w' ⟨rfl, rfl⟩
      go_wp2
      go_roundw
      case rel => exact ⟨j + 1, by omega, by go_num, _, rfl⟩
      case measure => simp [intOf]; omega
    · obtain rfl : j = k := by omega
      have hc := HOUT.out
      have hcall := fun m => ris_any (w.drewN m) s _ most last L (HA.out.drewN m) (cand most last j)
      have hap := fun m => append_int (HA.out.drewN m).row (cand most last j) (by omega) 47
      rw [decide_eq_false hc] at hcall
      have he : cand most last j = (last + j) % most + 1 := rfl
      rw [he] at hcall hap
      have HC := Lib.hid hcall
      have HAP := Lib.hid hap
      clear hc hcall he hap
      go_wp2
      go_quiet (fail)
      clear hm3 hm4 hm5 c1
      rename_i nq
      have hA2 := HA.out.drewN (n + nq)
      obtain ⟨v', w1, hr, hown, ht, hloc, hs⟩ := HAP.out (n + nq)
      have hput := hA2.put ht hown hloc
      have hne : s ∉ (Value.slice A L.length c).ownBlock.toList := by
        intro hm
        exact own_type_ne hA2.row hA2.st (by decide) s (by simpa using hm) rfl
      have hst := (ht.block s (lt_of_block hA2.st) hne).trans hA2.st
      have d2 : w1.cell? ⟨s, 2, none⟩ = some (.slice A L.length c) := cell_of hst rfl
      have f2 := free_of hst 2
      have hst2 := set_of hst 2 v'
      have f1 := free_of hst2 1
      obtain ⟨A', c', rfl⟩ := own_form hown
      rw [show (L ++ [(last + j) % most + 1]).length = L.length + 1 by simp] at hput hr hst2 f1 hloc
      have d1 : (w1.setCell ⟨s, 2, none⟩ (.slice A' (L.length + 1) c')).cell? ⟨s, 1, none⟩ = some (.int .i64 last) := cell_of hst2 rfl
      have HR := Lib.hid hr
      have HP := Lib.hid hput
      have HL := Lib.hid hloc
      clear hA2 hr hown ht hloc hput hne hst hs hst2
      go_wp2_with (first | (go_at_call 29; refine (HC.out _).mono ?_; rintro e w' ⟨rfl, rfl⟩) | (at_builtin; refine wpList_append_eq rfl _ _ _ rfl rfl rfl HR.out ?_))
      go_ret2
      exact ⟨rfl, _, HP.out.1.last _, (((Tch.refl _ _).drewN _).trans HP.out.2).setCell (.inl (by simp)) _, fun g hg => HL.out g (by simpa [Value.ownBlock] using hg)⟩
end Go.Proofs.Ytapiaiobohkemaa.PidsW
