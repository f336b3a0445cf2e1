/- Members: gone, online. -/
import Derived.Test.YtclhgnlhejohgaaMemB
set_option linter.unusedVariables false
set_option linter.unusedSimpArgs false
namespace Go.Proofs.Ytclhgnlhejohgaa.MemW
open Go.RowKit Go.Proofs.Ytclhgnlhejohgaa.Tc Go.Proofs.Ytclhgnlhejohgaa.MemP
open Go.Proofs.Ytclhgnlhejohgaa.PickW (OwnS Newer kS kI cells9 str_cell strs_new alloc_below)

set_option maxRecDepth 100000 in
set_option maxHeartbeats 2000000 in
theorem delete_any (w : World) (g c k i : Nat) (l : List Mem) (h : Row w (.slice (some ⟨g, 0, none⟩) l.length c) l) (hk : l.length = k + 1) (hi : i ≤ k) (hl : l.length < 1000000) :
    Calls Try.prog 101 #[.slice (some ⟨g, 0, none⟩) (k + 1) c, .int .i64 i, .int .i64 ((i : Int) + 1)] w fun e w' => e = .returned (.slice (some ⟨g, 0, none⟩) k c) ∧ Row w' (.slice (some ⟨g, 0, none⟩) k c) (l.eraseIdx i) ∧ Tch [g] w w' := by
  have hc1 : k + 1 ≤ c ∧ c ≤ maxLen := by
    rcases h.own.2 with ⟨h0, _⟩ | ⟨g', cap, cur, hv, hb, hh, h1, h2, h3, h4⟩
    · cases h0
    · injection hv with h5 h6 h7
      subst h7
      exact ⟨by omega, h2⟩
  obtain ⟨hc1, hc2⟩ := hc1
  unfold maxLen at hc2
  have i0 : (0 : Int) ≤ i := by omega
  have i1 : (i : Int) + 1 ≤ (k : Int) + 1 := by omega
  have i2 : (k : Int) + 1 ≤ c := by omega
  have i3 : ¬ ((i : Int) = (i : Int) + 1) := by omega
  have HREG : Hid (∀ x : Wd (Dr w), ∃ w2 w3, (Builtin.append_ #[55, 55] 55 #[.slice (some ⟨g, 0, none⟩) i c, .slice (if c = i + 1 then some ⟨g, 0, none⟩ else some ⟨g, (i + 1) * 4, none⟩) (k - i) (c - (i + 1))]).run Try.prog x.w = .ok (.slice (some ⟨g, 0, none⟩) k c) w2 ∧
      (Builtin.clear_ #[55] 0 #[.slice (some ⟨g, k * 4, none⟩) 1 (c - k)]).run Try.prog w2 = .ok (.tuple #[]) w3 ∧ Row w3 (.slice (some ⟨g, 0, none⟩) k c) (l.eraseIdx i) ∧ Tch [g] w w3) := Lib.hid (by
    intro x
    obtain ⟨W, hW⟩ := x
    have hx : Row W (.slice (some ⟨g, 0, none⟩) l.length c) l := h.kept (S := []) (Tch.of_below hW.below) (by simp)
    obtain ⟨t0, hi0, hz0, hz1, hz2⟩ := info_parts info66
    have htake := own_take (k := i) hx.own (by omega)
    rw [fl_take vals_len] at htake
    obtain ⟨ad, had, hsrc⟩ : ∃ ad : Addr, (if c = i + 1 then some (⟨g, 0, none⟩ : Addr) else some ⟨g, (i + 1) * 4, none⟩) = some ad ∧ (0 < k - i → ad = ⟨g, (i + 1) * 4, none⟩) := by
      by_cases e : c = i + 1
      · rw [if_pos e]; exact ⟨_, rfl, by intro h; omega⟩
      · rw [if_neg e]; exact ⟨_, rfl, fun _ => rfl⟩
    rw [had]
    have hnews : ∀ j u, ((l.drop (i + 1)).flatMap vals)[j]? = some u → W.cell? (ad.add j) = some u := by
      intro j u hu
      have hj0 := (List.getElem?_eq_some_iff.1 hu).1
      rw [fl_len vals_len, List.length_drop] at hj0
      rw [hsrc (by omega), add_plain]
      obtain ⟨g', c', hv, hf, hcell⟩ := own_cells hx.own (by omega)
      injection hv with hv
      injection hv with hv
      injection hv with hv
      subst hv
      have e1 : j = j / 4 * 4 + j % 4 := by omega
      rw [e1, fl_get vals_len _ _ _ (by omega), List.getElem?_drop] at hu
      rw [show (i + 1) * 4 + j = (i + 1 + j / 4) * 4 + j % 4 by omega]
      exact hcell _ u (by rw [fl_get vals_len _ _ _ (by omega)]; exact hu)
    obtain ⟨w2, hr2, ho2, hg2⟩ := run_append_own_spare (P := Try.prog) (w := W) 0 55 55 66 t0 4 Try.underlying55 hi0 hz1 g i c _ htake ad (k - i) (c - (i + 1)) _ (by rw [fl_len vals_len, List.length_drop]; omega) hnews (by
      intro u hu
      rw [List.mem_flatMap] at hu
      obtain ⟨x, _, hx⟩ := hu
      simp [vals] at hx
      rcases hx with rfl | rfl | rfl | rfl <;> rfl) (by omega)
    have her : l.take i ++ l.drop (i + 1) = l.eraseIdx i := (List.eraseIdx_eq_take_drop_succ l i).symm
    have hlen : (l.eraseIdx i).length = k := by rw [List.length_eraseIdx, if_pos (by omega)]; omega
    rw [show i + (k - i) = k by omega, ← List.flatMap_append, her] at ho2
    rw [show i + (k - i) = k by omega] at hr2
    have hrow2 : Row w2 (.slice (some ⟨g, 0, none⟩) k c) (l.eraseIdx i) := ⟨by rw [hlen]; exact ho2, fun x hx => h.ok x (List.mem_of_mem_eraseIdx hx)⟩
    obtain ⟨w3, hr3, hrow3, ht3⟩ := clear_one hrow2 hlen.symm hc1
    exact ⟨w2, w3, hr2, hr3, hrow3, ((Tch.of_below hW.below).trans (Tch.grownBy hg2)).trans ht3⟩)
  clear h
  go_enter Try.func101, Try.ntmps101
  go_upto_region 8 with (fail)
  refine wp_region_tail (Dr w) 6 (dr_drew _) (by kernel_rfl) (by kernel_rfl) ?_
  simp only [List.take_succ_cons, List.take_zero, List.drop_succ_cons, List.drop_zero]
  repeat (go_big_quiet_step (fail))
  refine wpQuiet_nil ?_
  intro wq
  obtain ⟨w2, w3, hr2, hr3, hR, hT⟩ := HREG.out wq
  have HR2 := Lib.hid hr2
  have HR := Lib.hid hR
  have HT := Lib.hid hT
  clear hr2 hR hT HREG
  go_wp2_with (at_builtin; first | refine wpList_append_eq rfl _ _ _ rfl rfl rfl HR2.out ?_)
  all_goals go_ret
  all_goals first | exact ⟨rfl, HR.out, HT.out⟩ | (subst_vars; exact ⟨rfl, HR.out, HT.out⟩)
set_option maxRecDepth 100000 in
set_option maxHeartbeats 2000000 in
theorem leave_any (w : World) (s : Nat) (v : Value) (l : List Mem) (gen : Int) (h : At w s v l gen) (hl : l.length < 1000000) (hg0 : 0 ≤ gen) (hg1 : gen < 1000000) (c : ByteArray) (q : Int) :
    Calls Try.prog 84 #[.pointer (some ⟨s, 0, none⟩), .string c] w (APost s v w (act l gen 2 c q)) := by
  have HF := Lib.hid (find_any w s v l gen h c)
  have HH := Lib.hid h
  cases hf : find l c with
  | none =>
    rw [fidx_none hf] at HF
    have HR := Lib.hid (show act l gen 2 c q = (false, l, gen) by simp [act, hf])
    clear h hf
    go_enter Try.func84, Try.ntmps84
    go_wp2_with fail
    refine HF.out.mono ?_
    rintro e w2 ⟨rfl, hb⟩
    have HE := Lib.hid (show APost s v w (act l gen 2 c q) (.returned (.bool false)) w2 by
      rw [HR.out]
      exact ⟨v, rfl, HH.out.below hb, Tch.of_below hb, fun g hg => .inl hg⟩)
    clear hb
    go_wp2_with fail
    go_ret
    exact HE.out
  | some i =>
    obtain ⟨x, hx, _, hi⟩ := find_some hf
    rw [fidx_some hf] at HF
    have HR := Lib.hid (show act l gen 2 c q = (true, l.eraseIdx i, gen + 1) by simp [act, hf])
    have hgt : ¬ ((i : Int) < 0) := by omega
    obtain ⟨k, hk⟩ : ∃ k, l.length = k + 1 := ⟨l.length - 1, by omega⟩
    clear h hf
    have HX := Lib.hid hx
    clear hx
    go_enter Try.func84, Try.ntmps84
    go_wp2_with fail
    refine HF.out.mono ?_
    rintro e w2 ⟨rfl, hb⟩
    have h2 := HH.out.below hb
    obtain ⟨g, cp, rfl, hfz, hcell⟩ := own_elem vals_len h2.row.own HX.out
    have hne := h2.ne g rfl
    have c0 : w2.cell? ⟨s, 0, none⟩ = some (.slice (some ⟨g, 0, none⟩) (k + 1) cp) := cell_of h2.st (by rw [hk]; rfl)
    have c1 : w2.cell? ⟨s, 1, none⟩ = some (.int .i64 gen) := cell_of h2.st rfl
    have hf1 := free_of h2.st 1
    have hst3 : (w2.setCell ⟨s, 1, none⟩ (.int .i64 (gen + 1))).heap[s]? = some (.cells #[.slice (some ⟨g, 0, none⟩) l.length cp, .int .i64 (gen + 1)] 57 (0, 0)) := set_of h2.st 1 (.int .i64 (gen + 1))
    have hrow3 : Row (w2.setCell ⟨s, 1, none⟩ (.int .i64 (gen + 1))) (.slice (some ⟨g, 0, none⟩) l.length cp) l := h2.row.kept (S := [s]) ((Tch.refl _ w2).setCell (p := ⟨s, 1, none⟩) (.inl (by simp)) _) (by intro g hg; simpa using h2.ne g hg)
    have HD := Lib.hid (delete_any _ g cp k i l hrow3 hk (by omega) hl)
    have hgr : gen + 1 < 9223372036854775807 := by omega
    have HST3 := Lib.hid hst3
    have HB := Lib.hid hb
    clear h2 hb hst3 hrow3 hcell hfz
    go_wp2_with fail
    refine HD.out.mono ?_
    rintro e w4 ⟨rfl, hR4, hT4⟩
    have hst4 : w4.heap[s]? = some (.cells #[.slice (some ⟨g, 0, none⟩) l.length cp, .int .i64 (gen + 1)] 57 (0, 0)) := (hT4.block s (lt_of_block HST3.out) (by simpa using Ne.symm hne)).trans HST3.out
    have e0 : w4.cell? ⟨s, 0, none⟩ = some (.slice (some ⟨g, 0, none⟩) (k + 1) cp) := cell_of hst4 (by rw [hk]; rfl)
    have ef := free_of hst4 0
    have hst5 : (w4.setCell ⟨s, 0, none⟩ (.slice (some ⟨g, 0, none⟩) k cp)).heap[s]? = some (.cells #[.slice (some ⟨g, 0, none⟩) k cp, .int .i64 (gen + 1)] 57 (0, 0)) := set_of hst4 0 _
    have HE := Lib.hid (show APost s (.slice (some ⟨g, 0, none⟩) l.length cp) w (act l gen 2 c q) (.returned (.bool true)) (w4.setCell ⟨s, 0, none⟩ (.slice (some ⟨g, 0, none⟩) k cp)) by
      rw [HR.out]
      refine ⟨.slice (some ⟨g, 0, none⟩) k cp, rfl, ⟨hst5, hR4.kept (S := [s]) ((Tch.refl _ w4).setCell (p := ⟨s, 0, none⟩) (.inl (by simp)) _) (by intro g' hg; simp [Value.ownBlock] at hg ⊢; omega)⟩, ?_, ?_⟩
      · have t1 : Tch (s :: (Value.slice (some ⟨g, 0, none⟩) l.length cp).ownBlock.toList) w (w2.setCell ⟨s, 1, none⟩ (.int .i64 (gen + 1))) := ((Tch.of_below HB.out).setCell (p := ⟨s, 1, none⟩) (.inl (by simp)) _)
        exact (t1.then hT4 (fun i hi => .inl (by simp at hi; simp [Value.ownBlock, hi]))).setCell (p := ⟨s, 0, none⟩) (.inl (by simp)) _
      · intro g' hg
        exact .inl hg)
    clear hR4 hT4 hst4 hst5
    go_wp2_with fail
    go_ret
    exact HE.out
end Go.Proofs.Ytclhgnlhejohgaa.MemW
