/- One act on the numbers that came in: the reference's, and on those that nobody made. -/
import Derived.Test.YtapiaiobohkemaaInR
import Derived.Test.YtapiaiobohkemaaInLaw
set_option linter.unusedVariables false
set_option linter.unusedSimpArgs false
namespace Go.Proofs.Ytapiaiobohkemaa.InW
open Go.RowKit Go.Proofs.Ytapiaiobohkemaa.Tc InPure

/-- What an act leaves of a reference's object. -/
def RPost (w : World) (s : Nat) (v : Value) (most : Int) (L : List (Int × Int)) (w' : World) : Prop :=
  ∃ v', RAt w' s v' most L ∧ Tch (s :: v.ownBlock.toList) w w' ∧ ∀ g, v'.ownBlock = some g → v.ownBlock = some g ∨ w.heap.size ≤ g
theorem RPost.same {w : World} {s : Nat} {v : Value} {most : Int} {L : List (Int × Int)} (h : RAt w s v most L) : RPost w s v most L w := ⟨v, h, Tch.refl _ _, fun g hg => .inl hg⟩
theorem RPost.drewN {w : World} {s : Nat} {v : Value} {most : Int} {L : List (Int × Int)} (h : RAt w s v most L) (n : Nat) : RPost w s v most L (w.drewN n) := ⟨v, h.drewN n, (Tch.refl _ _).drewN n, fun g hg => .inl hg⟩
theorem found_del {L : List (Int × Int)} (I : Inv L) {i : Int} {k : Nat} (hk : k < L.length) (h : L[k].1 = i) : L.take k ++ L.drop (k + 1) = del L i := (findAt_del I.nodup hk h).symm

set_option maxHeartbeats 1000000 in
theorem rdone_any (w : World) (s : Nat) (v : Value) (most : Int) (L : List (Int × Int)) (h : RAt w s v most L) (I : Inv L) (hlen : L.length < 1000000) (i : Int) :
    Calls Try.prog 36 #[.pointer (some ⟨s, 0, none⟩), .int .i64 i] w fun e w' => e = .returned (.bool (decide (getQ L i ≠ 0))) ∧ RPost w s v most (del L i) w' := by
  have HA := Lib.hid h
  have HF := Lib.hid (find_any w s v most L h i)
  have HI := Lib.hid I
  clear h I
  go_enter Try.func36, Try.ntmps36
  go_wp2_with fail
  refine HF.out.mono ?_
  rintro e w' ⟨⟨r, hr, rfl⟩, rfl⟩
  rcases hr with ⟨rfl, hz⟩ | ⟨k, rfl, hk, hki, hq⟩
  · have HD := Lib.hid (show decide (getQ L i ≠ 0) = false by simpa using hz)
    have HL := Lib.hid (del_none HI.out hz)
    clear hz
    go_wp2_with fail
    go_ret
    exact ⟨ret_bool HD.out.symm, by rw [HL.out]; exact RPost.same HA.out⟩
  · have hne : getQ L i ≠ 0 := by have := HI.out.q _ (List.getElem_mem hk); omega
    have HD := Lib.hid (show decide (getQ L i ≠ 0) = true by simpa using hne)
    have HDR := Lib.hid (drop_any w s v most L HA.out hlen k hk)
    have HL := Lib.hid (found_del HI.out hk hki)
    clear hne hki hq
    go_wp2_with fail
    refine HDR.out.mono ?_
    rintro e w2 ⟨rfl, v', hA, hT, hg⟩
    have HR := Lib.hid (show RPost w s v most (del L i) w2 from ⟨v', by rw [← HL.out]; exact hA, hT.mono (by simp), fun g hg' => .inr (hg g hg')⟩)
    clear hA hT hg
    go_wp2_with fail
    go_ret
    exact ⟨ret_bool HD.out.symm, HR.out⟩
set_option maxHeartbeats 1000000 in
theorem rrelease_any (w : World) (s : Nat) (v : Value) (most : Int) (L : List (Int × Int)) (h : RAt w s v most L) (I : Inv L) (hlen : L.length < 1000000) (i : Int) :
    Calls Try.prog 37 #[.pointer (some ⟨s, 0, none⟩), .int .i64 i] w fun e w' => e = .returned (.bool (decide (getQ L i = 2))) ∧ RPost w s v most (if getQ L i = 2 then del L i else L) w' := by
  have HA := Lib.hid h
  have HF := Lib.hid (find_any w s v most L h i)
  have HI := Lib.hid I
  have c1 : w.cell? ⟨s, 1, none⟩ = some v := cell_of h.st rfl
  have hm := own_le h.row
  unfold maxLen at hm
  clear h I
  generalize hdd : decide (getQ L i = 2) = dd
  generalize hMM : (if getQ L i = 2 then del L i else L) = MM
  have HDD := Lib.hid hdd
  have HMM := Lib.hid hMM
  clear hdd hMM
  go_enter Try.func37, Try.ntmps37
  go_wp2_with fail
  refine HF.out.mono ?_
  rintro e w' ⟨⟨r, hr, rfl⟩, rfl⟩
  rcases hr with ⟨rfl, hz⟩ | ⟨k, rfl, hk, hki, hq⟩
  · have HD := Lib.hid (show dd = false by rw [← HDD.out, hz]; rfl)
    have HL := Lib.hid (show MM = L by rw [← HMM.out, if_neg (by omega)])
    clear hz
    go_wp2_with fail
    go_ret
    exact ⟨ret_bool HD.out.symm, by rw [HL.out]; exact RPost.same HA.out⟩
  · obtain ⟨g, c, rfl, -, hcell⟩ := own_cells HA.out.row (by omega)
    have hck := hcell (k * 2 + 1) _ (prs_at hk).2
    by_cases h2 : L[k].2 = 2
    · have HD := Lib.hid (show dd = true by rw [← HDD.out]; simpa [hq] using h2)
      have HDR := Lib.hid (drop_any w s _ most L HA.out hlen k hk)
      have HL := Lib.hid (found_del HI.out hk hki)
      have HIF := Lib.hid (show MM = del L i by rw [← HMM.out, if_pos (by omega)])
      have b2 : (L[k].2 != 2) = false := by simpa using h2
      clear hki hq hcell h2
      go_wp2_with fail
      refine HDR.out.mono ?_
      rintro e w2 ⟨rfl, v', hA, hT, hg⟩
      have HR := Lib.hid (show RPost w s (.slice (some ⟨g, 0, none⟩) L.length c) most (del L i) w2 from ⟨v', by rw [← HL.out]; exact hA, hT.mono (by simp), fun g hg' => .inr (hg g hg')⟩)
      clear hA hT hg
      go_wp2_with fail
      go_ret
      exact ⟨ret_bool HD.out.symm, by rw [HIF.out]; exact HR.out⟩
    · have HD := Lib.hid (show dd = false by rw [← HDD.out]; simpa [hq] using h2)
      have HIF := Lib.hid (show MM = L by rw [← HMM.out, if_neg (by omega)])
      have b2 : (L[k].2 != 2) = true := by simpa using h2
      clear hki hq hcell h2
      go_wp2_with fail
      go_ret
      exact ⟨ret_bool HD.out.symm, by rw [HIF.out]; exact RPost.same HA.out⟩
set_option maxHeartbeats 2000000 in
theorem rtake_any (w : World) (s : Nat) (v : Value) (most : Int) (L : List (Int × Int)) (h : RAt w s v most L) (I : Inv L) (hlen : L.length < 1000000) (i q : Int) :
    Calls Try.prog 35 #[.pointer (some ⟨s, 0, none⟩), .int .i64 i, .int .i64 q] w fun e w' => e = .returned (.int .i64 (take most L i q).1) ∧ RPost w s v most (take most L i q).2 w' := by
  have HA := Lib.hid h
  have HF := Lib.hid (find_any w s v most L h i)
  have HI := Lib.hid I
  have c0 : w.cell? ⟨s, 0, none⟩ = some (.int .i64 most) := cell_of h.st rfl
  have c1 : w.cell? ⟨s, 1, none⟩ = some v := cell_of h.st rfl
  have hm := own_le h.row
  unfold maxLen at hm
  clear h I
  by_cases k1 : ¬ (q = 1 ∨ q = 2)
  · have HT := Lib.hid (show take most L i q = (4, L) by unfold take; rw [if_pos k1])
    rw [HT.out]
    have b1 : (q != 1) = true := by simpa using fun e => k1 (.inl e)
    have b2 : (q != 2) = true := by simpa using fun e => k1 (.inr e)
    clear k1
    go_enter Try.func35, Try.ntmps35
    go_wp2_with fail
    go_ret
    exact ⟨rfl, RPost.same HA.out⟩
  · have k1' : q = 1 ∨ q = 2 := Decidable.not_not.1 k1
    by_cases hz : getQ L i = 0
    · have hF0 : ∀ r, Found L i r → r = -1 := by
        rintro r (⟨rfl, _⟩ | ⟨k, rfl, hk, hki, hq⟩)
        · rfl
        · have := HI.out.q _ (List.getElem_mem hk); omega
      by_cases hf : most ≤ L.length
      · have HT := Lib.hid (show take most L i q = (3, L) by unfold take; rw [if_neg k1, if_neg (by omega), if_neg (by omega), if_pos hf])
        rw [HT.out]
        obtain ⟨A, c, rfl⟩ := own_form HA.out.row
        have hd : decide (most ≤ (L.length : Int)) = true := by simpa using hf
        clear k1 hf hz
        rcases k1' with rfl | rfl
        · go_enter Try.func35, Try.ntmps35
          go_wp2_with fail
          refine HF.out.mono ?_
          rintro e w' ⟨⟨r, hr, rfl⟩, rfl⟩
          obtain rfl := hF0 r hr
          go_wp2
          go_quiet (fail)
          go_wp2
          go_ret
          exact ⟨rfl, RPost.drewN HA.out _⟩
        · go_enter Try.func35, Try.ntmps35
          go_wp2_with fail
          refine HF.out.mono ?_
          rintro e w' ⟨⟨r, hr, rfl⟩, rfl⟩
          obtain rfl := hF0 r hr
          go_wp2
          go_quiet (fail)
          go_wp2
          go_ret
          exact ⟨rfl, RPost.drewN HA.out _⟩
      · have HT := Lib.hid (show take most L i q = (1, L ++ [(i, q)]) by unfold take; rw [if_neg k1, if_neg (by omega), if_neg (by omega), if_neg hf])
        rw [HT.out]
        have hd : decide (most ≤ (L.length : Int)) = false := by simpa using hf
        have HAP := Lib.hid (fun n => append_pair (HA.out.drewN n).row (i, q) hlen 57)
        have hsv : s ∉ v.ownBlock.toList := by
          intro hm
          exact own_type_ne HA.out.row HA.out.st (by decide) s (by simpa using hm) rfl
        have HPUT := Lib.hid (fun n v' w1 (hown : w1.ownsRow 0 90 2 v' (L ++ [(i, q)]).length (prs (L ++ [(i, q)]))) (ht : Tch v.ownBlock.toList (w.drewN n) w1) hl => (HA.out.drewN n).put ht hsv hown hl)
        obtain ⟨A, c, rfl⟩ := own_form HA.out.row
        have HSV := Lib.hid hsv
        clear k1 hf hz hsv
        rcases k1' with rfl | rfl
        · go_enter Try.func35, Try.ntmps35
          go_wp2_with fail
          refine HF.out.mono ?_
          rintro e w' ⟨⟨r, hr, rfl⟩, rfl⟩
          obtain rfl := hF0 r hr
          go_wp2
          go_quiet (fail)
          rename_i nq
          obtain ⟨v', w1, hr1, hown, ht, hloc, hs⟩ := HAP.out nq
          have hput := HPUT.out nq v' w1 hown ht hloc
          have hst := (ht.block s (lt_of_block HA.out.st) HSV.out).trans (HA.out.drewN nq).st
          have d2 : w1.cell? ⟨s, 1, none⟩ = some (.slice A L.length c) := cell_of hst rfl
          have f2 := free_of hst 1
          obtain ⟨A', c', rfl⟩ := own_form hown
          rw [show (L ++ [(i, (1 : Int))]).length = L.length + 1 by simp] at hput hr1 hloc
          have HR := Lib.hid hr1
          have HP := Lib.hid hput
          have HL := Lib.hid hloc
          clear hr1 hown ht hloc hput hs hst
          go_wp2_with (at_builtin; refine wpList_append_eq rfl _ _ _ rfl rfl rfl HR.out ?_)
          go_ret
          exact ⟨rfl, _, HP.out.1, (((Tch.refl _ _).drewN _).trans HP.out.2), fun g hg => HL.out g (by simpa [Value.ownBlock] using hg)⟩
        · go_enter Try.func35, Try.ntmps35
          go_wp2_with fail
          refine HF.out.mono ?_
          rintro e w' ⟨⟨r, hr, rfl⟩, rfl⟩
          obtain rfl := hF0 r hr
          go_wp2
          go_quiet (fail)
          rename_i nq
          obtain ⟨v', w1, hr1, hown, ht, hloc, hs⟩ := HAP.out nq
          have hput := HPUT.out nq v' w1 hown ht hloc
          have hst := (ht.block s (lt_of_block HA.out.st) HSV.out).trans (HA.out.drewN nq).st
          have d2 : w1.cell? ⟨s, 1, none⟩ = some (.slice A L.length c) := cell_of hst rfl
          have f2 := free_of hst 1
          obtain ⟨A', c', rfl⟩ := own_form hown
          rw [show (L ++ [(i, (2 : Int))]).length = L.length + 1 by simp] at hput hr1 hloc
          have HR := Lib.hid hr1
          have HP := Lib.hid hput
          have HL := Lib.hid hloc
          clear hr1 hown ht hloc hput hs hst
          go_wp2_with (at_builtin; refine wpList_append_eq rfl _ _ _ rfl rfl rfl HR.out ?_)
          go_ret
          exact ⟨rfl, _, HP.out.1, (((Tch.refl _ _).drewN _).trans HP.out.2), fun g hg => HL.out g (by simpa [Value.ownBlock] using hg)⟩
    · have hF1 : ∀ r, Found L i r → ∃ k : Nat, r = k ∧ ∃ h : k < L.length, getQ L i = L[k].2 := by
        rintro r (⟨rfl, h0⟩ | ⟨k, rfl, hk, hki, hq⟩)
        · exact absurd h0 hz
        · exact ⟨k, rfl, hk, hq⟩
      have h12 := getQ_q HI.out i
      have h3 : (getQ L i = 2 ∧ q = 2) ∨ (getQ L i = 1 ∧ q = 2) ∨ q = 1 := by omega
      rcases h3 with ⟨h3, rfl⟩ | ⟨h3, rfl⟩ | rfl
      · have HT := Lib.hid (show take most L i 2 = (2, L) by unfold take; rw [if_neg k1, if_pos ⟨h3, rfl⟩])
        rw [HT.out]
        rw [h3] at hF1
        have HF1 := Lib.hid hF1
        clear k1 k1' h12 hz hF1
        go_enter Try.func35, Try.ntmps35
        go_wp2_with fail
        refine HF.out.mono ?_
        rintro e w' ⟨⟨r, hr, rfl⟩, rfl⟩
        obtain ⟨k, rfl, hk, hq⟩ := HF1.out r hr
        obtain ⟨g, c, rfl, -, hcell⟩ := own_cells HA.out.row (by omega)
        have hck := hcell (k * 2 + 1) _ (prs_at hk).2
        rw [← hq] at hck
        clear hcell hq hr h3
        go_wp2
        go_ret
        exact ⟨rfl, RPost.same HA.out⟩
      · have HT := Lib.hid (show take most L i 2 = (4, L) by unfold take; rw [if_neg k1, if_neg (by omega), if_pos hz])
        rw [HT.out]
        rw [h3] at hF1
        have HF1 := Lib.hid hF1
        clear k1 k1' h12 hz hF1
        go_enter Try.func35, Try.ntmps35
        go_wp2_with fail
        refine HF.out.mono ?_
        rintro e w' ⟨⟨r, hr, rfl⟩, rfl⟩
        obtain ⟨k, rfl, hk, hq⟩ := HF1.out r hr
        obtain ⟨g, c, rfl, -, hcell⟩ := own_cells HA.out.row (by omega)
        have hck := hcell (k * 2 + 1) _ (prs_at hk).2
        rw [← hq] at hck
        clear hcell hq hr h3
        go_wp2
        go_ret
        exact ⟨rfl, RPost.same HA.out⟩
      · have HT := Lib.hid (show take most L i 1 = (4, L) by unfold take; rw [if_neg k1, if_neg (by omega), if_pos hz])
        rw [HT.out]
        have HF1 := Lib.hid hF1
        clear k1 k1' h12 hz hF1
        go_enter Try.func35, Try.ntmps35
        go_wp2_with fail
        refine HF.out.mono ?_
        rintro e w' ⟨⟨r, hr, rfl⟩, rfl⟩
        obtain ⟨k, rfl, hk, hq⟩ := HF1.out r hr
        clear hq hr
        go_wp2
        go_ret
        exact ⟨rfl, RPost.same HA.out⟩

/-! ### those that nobody made -/
/-- nil, or a zero value. -/
def Nobody (w : World) (p : Value) : Prop := p = .pointer none ∨ ∃ z, p = .pointer (some ⟨z, 0, none⟩) ∧ w.heap[z]? = some (.cells #[.int .i64 0, .map none] 62 (0, 0))
theorem Nobody.kept {w w' : World} {p : Value} {S : List Nat} (h : Nobody w p) (ht : Tch S w w') (hs : ∀ z, p = .pointer (some ⟨z, 0, none⟩) → z ∉ S) : Nobody w' p := by
  rcases h with rfl | ⟨z, rfl, hz⟩
  · exact .inl rfl
  · exact .inr ⟨z, rfl, (ht.block z (lt_of_block hz) (hs z rfl)).trans hz⟩
theorem nlen_any (w : World) (p : Value) (h : Nobody w p) : Calls Try.prog 38 #[p] w fun e w' => e = .returned (.int .i64 0) ∧ w = w' := by
  rcases h with rfl | ⟨z, rfl, hz⟩
  · go_enter Try.func38, Try.ntmps38
    go_wp2
    go_ret
    exact ⟨rfl, rfl⟩
  · have c2 : w.cell? ⟨z, 1, none⟩ = some (.map none) := cell_of hz rfl
    have hl := fun w => Maps.len_nil (P := Try.prog) (w := w) Try.underlying60 3
    clear hz
    go_enter Try.func38, Try.ntmps38
    go_wp2
    go_ret
    exact ⟨rfl, rfl⟩
theorem nof_any (w : World) (p : Value) (h : Nobody w p) (i : Int) (hi : (Lit.int .i64 i).wf = true) : Calls Try.prog 57 #[p, .int .i64 i] w fun e w' => e = .returned (.int .i64 0) ∧ w = w' := by
  rcases h with rfl | ⟨z, rfl, hz⟩
  · go_enter Try.func57, Try.ntmps57
    go_wp2
    go_ret
    exact ⟨rfl, rfl⟩
  · have c2 : w.cell? ⟨z, 1, none⟩ = some (.map none) := cell_of hz rfl
    have hl : ∀ w, (Instr.lookup 60 (.map none) (.int .i64 i) false).run Try.prog w = .ok (.int .i64 0) w := fun w => Maps.look_nil false T.keyed Try.underlying60 (zero3 w) (T.key i hi)
    clear hz hi
    go_enter Try.func57, Try.ntmps57
    go_wp2
    go_ret
    exact ⟨rfl, rfl⟩
theorem nroom_any (w : World) (p : Value) (h : Nobody w p) : Calls Try.prog 58 #[p] w fun e w' => e = .returned (.int .i64 0) ∧ w = w' := by
  rcases h with rfl | ⟨z, rfl, hz⟩
  · go_enter Try.func58, Try.ntmps58
    go_wp2
    go_ret
    exact ⟨rfl, rfl⟩
  · have c2 : w.cell? ⟨z, 1, none⟩ = some (.map none) := cell_of hz rfl
    have hmn := mapNil' w
    clear hz
    go_enter Try.func58, Try.ntmps58
    go_wp2
    go_ret
    exact ⟨rfl, rfl⟩
theorem ndone_any (w : World) (p : Value) (h : Nobody w p) (i : Int) (hi : (Lit.int .i64 i).wf = true) : Calls Try.prog 39 #[p, .int .i64 i] w fun e w' => e = .returned (.bool false) ∧ w = w' := by
  have HC := Lib.hid (nof_any w p h i hi)
  clear h hi
  go_enter Try.func39, Try.ntmps39
  go_wp2_with (go_at_call 57; refine (HC.out).mono ?_; rintro e w' ⟨rfl, rfl⟩)
  go_ret
  exact ⟨rfl, rfl⟩
theorem nrelease_any (w : World) (p : Value) (h : Nobody w p) (i : Int) (hi : (Lit.int .i64 i).wf = true) : Calls Try.prog 41 #[p, .int .i64 i] w fun e w' => e = .returned (.bool false) ∧ w = w' := by
  have HC := Lib.hid (nof_any w p h i hi)
  clear h hi
  go_enter Try.func41, Try.ntmps41
  go_wp2_with (go_at_call 57; refine (HC.out).mono ?_; rintro e w' ⟨rfl, rfl⟩)
  go_ret
  exact ⟨rfl, rfl⟩
def nq (q : Int) : Int := if ¬ (q = 1 ∨ q = 2) then 4 else 3
theorem ntake_any (w : World) (p : Value) (h : Nobody w p) (i q : Int) (hi : (Lit.int .i64 i).wf = true) : Calls Try.prog 40 #[p, .int .i64 i, .int .i64 q] w fun e w' => e = .returned (.int .i64 (nq q)) ∧ w = w' := by
  have HC := Lib.hid (nof_any w p h i hi)
  have HL := Lib.hid (nlen_any w p h)
  have HR := Lib.hid (nroom_any w p h)
  clear h hi
  unfold nq
  by_cases k1 : ¬ (q = 1 ∨ q = 2)
  · rw [if_pos k1]
    have b1 : (q != 1) = true := by simpa using fun e => k1 (.inl e)
    have b2 : (q != 2) = true := by simpa using fun e => k1 (.inr e)
    clear k1
    go_enter Try.func40, Try.ntmps40
    go_wp2_with (go_at_call 57; refine (HC.out).mono ?_; rintro e w' ⟨rfl, rfl⟩)
    go_ret
    exact ⟨rfl, rfl⟩
  · rw [if_neg k1]
    have k1' : q = 1 ∨ q = 2 := Decidable.not_not.1 k1
    clear k1
    rcases k1' with rfl | rfl
    · go_enter Try.func40, Try.ntmps40
      go_wp2_with (first | (go_at_call 57; refine (HC.out).mono ?_; rintro e w' ⟨rfl, rfl⟩) | (go_at_call 38; refine (HL.out).mono ?_; rintro e w' ⟨rfl, rfl⟩) | (go_at_call 58; refine (HR.out).mono ?_; rintro e w' ⟨rfl, rfl⟩))
      go_ret
      exact ⟨rfl, rfl⟩
    · go_enter Try.func40, Try.ntmps40
      go_wp2_with (first | (go_at_call 57; refine (HC.out).mono ?_; rintro e w' ⟨rfl, rfl⟩) | (go_at_call 38; refine (HL.out).mono ?_; rintro e w' ⟨rfl, rfl⟩) | (go_at_call 58; refine (HR.out).mono ?_; rintro e w' ⟨rfl, rfl⟩))
      go_ret
      exact ⟨rfl, rfl⟩
theorem ndo_any (w : World) (p : Value) (h : Nobody w p) (kind id qos : Int) (hi : (Lit.int .i64 id).wf = true) :
    Calls Try.prog 34 #[p, .agg #[.int .i64 kind, .int .i64 id, .int .i64 qos]] w fun e w' => e = .returned (.tuple #[.int .i64 (if kind = 1 then nq qos else 0), .bool false]) ∧ Below w.heap.size w w' := by
  have hB : Below w.heap.size w (w.alloc (.cells #[.int .i64 kind, .int .i64 id, .int .i64 qos] 65)) := (Below.refl _ _).alloc (Nat.le_refl _) _
  have hN : Nobody (w.alloc (.cells #[.int .i64 kind, .int .i64 id, .int .i64 qos] 65)) p := h.kept ((Tch.refl [] w).alloc _) (by simp)
  have hp : p.oneCell' = true := by rcases h with rfl | ⟨z, rfl, _⟩ <;> rfl
  have HB := Lib.hid hB
  have H1 := Lib.hid (ntake_any _ p hN id qos hi)
  have H2 := Lib.hid (ndone_any _ p hN id hi)
  have H3 := Lib.hid (nrelease_any _ p hN id hi)
  clear hB hN h hi
  by_cases k1 : kind = 1
  · subst k1
    rw [if_pos rfl]
    go_enter Try.func34, Try.ntmps34
    go_wp2_with fail
    refine H1.out.mono ?_
    rintro e w' ⟨rfl, rfl⟩
    go_wp2
    go_ret2
    exact ⟨rfl, HB.out⟩
  · rw [if_neg k1]
    by_cases k2 : kind = 2
    · subst k2
      go_enter Try.func34, Try.ntmps34
      go_wp2_with fail
      refine H2.out.mono ?_
      rintro e w' ⟨rfl, rfl⟩
      go_wp2
      go_ret2
      exact ⟨rfl, HB.out⟩
    · by_cases k3 : kind = 3
      · subst k3
        go_enter Try.func34, Try.ntmps34
        go_wp2_with fail
        refine H3.out.mono ?_
        rintro e w' ⟨rfl, rfl⟩
        go_wp2
        go_ret2
        exact ⟨rfl, HB.out⟩
      · have e1 : (kind == 1) = false := by simpa using k1
        have e2 : (kind == 2) = false := by simpa using k2
        have e3 : (kind == 3) = false := by simpa using k3
        clear k1 k2 k3
        go_enter Try.func34, Try.ntmps34
        go_wp2
        go_ret2
        exact ⟨rfl, HB.out⟩
theorem rtake_zero (w : World) (z : Nat) (h : w.heap[z]? = some (.cells #[.int .i64 0, .slice none 0 0] 59 (0, 0))) (i q : Int) :
    Calls Try.prog 35 #[.pointer (some ⟨z, 0, none⟩), .int .i64 i, .int .i64 q] w fun e w' => e = .returned (.int .i64 (nq q)) ∧ ∃ n, w' = w.drewN n := by
  have hR : RAt w z (.slice none 0 0) 0 [] := ⟨h, own_nil _ _ _⟩
  have HF := Lib.hid (find_any w z _ 0 [] hR i)
  have c0 : w.cell? ⟨z, 0, none⟩ = some (.int .i64 0) := cell_of h rfl
  have c1 : w.cell? ⟨z, 1, none⟩ = some (.slice none 0 0) := cell_of h rfl
  clear hR h
  unfold nq
  by_cases k1 : ¬ (q = 1 ∨ q = 2)
  · rw [if_pos k1]
    have b1 : (q != 1) = true := by simpa using fun e => k1 (.inl e)
    have b2 : (q != 2) = true := by simpa using fun e => k1 (.inr e)
    clear k1
    go_enter Try.func35, Try.ntmps35
    go_wp2_with fail
    go_ret
    exact ⟨rfl, 0, rfl⟩
  · rw [if_neg k1]
    have k1' : q = 1 ∨ q = 2 := Decidable.not_not.1 k1
    have hF0 : ∀ r, Found [] i r → r = -1 := by
      rintro r (⟨rfl, _⟩ | ⟨k, rfl, hk, _⟩)
      · rfl
      · simp at hk
    clear k1
    rcases k1' with rfl | rfl
    · go_enter Try.func35, Try.ntmps35
      go_wp2_with fail
      refine HF.out.mono ?_
      rintro e w' ⟨⟨r, hr, rfl⟩, rfl⟩
      obtain rfl := hF0 r hr
      go_wp2
      go_quiet (fail)
      go_wp2
      go_ret
      exact ⟨rfl, _, rfl⟩
    · go_enter Try.func35, Try.ntmps35
      go_wp2_with fail
      refine HF.out.mono ?_
      rintro e w' ⟨⟨r, hr, rfl⟩, rfl⟩
      obtain rfl := hF0 r hr
      go_wp2
      go_quiet (fail)
      go_wp2
      go_ret
      exact ⟨rfl, _, rfl⟩
end Go.Proofs.Ytapiaiobohkemaa.InW
