/- Members: online, read, here, owner. -/
import Derived.Test.YtclhgnlhejohgaaMemC
set_option linter.unusedVariables false
set_option linter.unusedSimpArgs false
namespace Go.Proofs.Ytclhgnlhejohgaa.MemW
open Go.RowKit Go.Proofs.Ytclhgnlhejohgaa.Tc Go.Proofs.Ytclhgnlhejohgaa.MemP
open Go.Proofs.Ytclhgnlhejohgaa.PickW (OwnS Newer kS kI cells9 str_cell strs_new alloc_below)

def kindOf (is : Bool) : Int := if is = true then 3 else 4
set_option maxRecDepth 100000 in
set_option maxHeartbeats 2000000 in
theorem online_any (w : World) (s : Nat) (v : Value) (l : List Mem) (gen : Int) (h : At w s v l gen) (hl : l.length < 1000000) (hg0 : 0 ≤ gen) (hg1 : gen < 1000000) (c : ByteArray) (is : Bool) (q : Int) :
    Calls Try.prog 83 #[.pointer (some ⟨s, 0, none⟩), .string c, .bool is] w (APost s v w (act l gen (kindOf is) c q)) := by
  have HF := Lib.hid (find_any w s v l gen h c)
  have HH := Lib.hid h
  have hk3 : decide (kindOf is = 3) = is := by cases is <;> rfl
  have hk1 : ¬ kindOf is = 1 := by cases is <;> decide
  have hk2 : ¬ kindOf is = 2 := by cases is <;> decide
  have hk4 : kindOf is = 3 ∨ kindOf is = 4 := by cases is <;> decide
  cases hf : find l c with
  | none =>
    rw [fidx_none hf] at HF
    have HR := Lib.hid (show act l gen (kindOf is) c q = (false, l, gen) by simp [act, hf, hk1, hk2, hk4])
    clear h hf hk1 hk2 hk3 hk4
    go_enter Try.func83, Try.ntmps83
    go_wp2_with fail
    refine HF.out.mono ?_
    rintro e w2 ⟨rfl, hb⟩
    have HE := Lib.hid (show APost s v w (act l gen (kindOf is) c q) (.returned (.bool false)) w2 by
      rw [HR.out]
      exact ⟨v, rfl, HH.out.below hb, Tch.of_below hb, fun g hg => .inl hg⟩)
    clear hb
    go_wp2_with fail
    go_ret
    exact HE.out
  | some i =>
    obtain ⟨x, hx, -, hi⟩ := find_some hf
    rw [fidx_some hf] at HF
    have hgt : ¬ ((i : Int) < 0) := by omega
    by_cases e : x.online = is
    · have HR := Lib.hid (show act l gen (kindOf is) c q = (false, l, gen) by
        unfold act
        rw [if_neg hk1, if_neg hk2, if_pos hk4, hk3]
        simp only [hf, hx]
        rw [if_pos e])
      have e1 : (x.online == is) = true := by rw [e]; cases is <;> rfl
      clear h hf hk1 hk2 hk3 hk4 e
      have HX := Lib.hid hx
      clear hx
      go_enter Try.func83, Try.ntmps83
      go_wp2_with fail
      refine HF.out.mono ?_
      rintro e w2 ⟨rfl, hb⟩
      have h2 := HH.out.below hb
      obtain ⟨g, cp, rfl, hfz, hcell⟩ := own_elem vals_len h2.row.own HX.out
      have c0 : w2.cell? ⟨s, 0, none⟩ = some (.slice (some ⟨g, 0, none⟩) l.length cp) := cell_of h2.st rfl
      have c1 := hcell 3 _ rfl
      have HE := Lib.hid (show APost s (.slice (some ⟨g, 0, none⟩) l.length cp) w (act l gen (kindOf is) c q) (.returned (.bool false)) w2 by
        rw [HR.out]
        exact ⟨_, rfl, h2, Tch.of_below hb, fun g hg => .inl hg⟩)
      clear hb h2 hfz hcell
      go_wp2_with fail
      go_ret
      exact HE.out
    · have HR := Lib.hid (show act l gen (kindOf is) c q = (true, l.set i { x with online := is }, gen + 1) by
        unfold act
        rw [if_neg hk1, if_neg hk2, if_pos hk4, hk3]
        simp only [hf, hx]
        rw [if_neg e])
      have e1 : (x.online == is) = false := by cases hq : x.online <;> cases is <;> simp_all
      clear h hf hk1 hk2 hk3 hk4 e
      have HX := Lib.hid hx
      clear hx
      go_enter Try.func83, Try.ntmps83
      go_wp2_with fail
      refine HF.out.mono ?_
      rintro e w2 ⟨rfl, hb⟩
      have h2 := HH.out.below hb
      obtain ⟨g, cp, rfl, hfz, hcell⟩ := own_elem vals_len h2.row.own HX.out
      have hne := h2.ne g rfl
      have c0 : w2.cell? ⟨s, 0, none⟩ = some (.slice (some ⟨g, 0, none⟩) l.length cp) := cell_of h2.st rfl
      have c2 : w2.cell? ⟨s, 1, none⟩ = some (.int .i64 gen) := cell_of h2.st rfl
      have hf1 := free_of h2.st 1
      have c1 := hcell 3 _ rfl
      have hst3 : (w2.setCell ⟨s, 1, none⟩ (.int .i64 (gen + 1))).heap[s]? = some (.cells #[.slice (some ⟨g, 0, none⟩) l.length cp, .int .i64 (gen + 1)] 57 (0, 0)) := set_of h2.st 1 (.int .i64 (gen + 1))
      have hrow3 : Row (w2.setCell ⟨s, 1, none⟩ (.int .i64 (gen + 1))) (.slice (some ⟨g, 0, none⟩) l.length cp) l := h2.row.kept (S := [s]) ((Tch.refl _ w2).setCell (p := ⟨s, 1, none⟩) (.inl (by simp)) _) (by intro g hg; simpa using h2.ne g hg)
      obtain ⟨g', c', hv', hfz3, hcell3⟩ := own_elem vals_len hrow3.own HX.out
      injection hv' with hv' _ _
      injection hv' with hv'
      injection hv' with hv'
      subst hv'
      have d0 : (w2.setCell ⟨s, 1, none⟩ (.int .i64 (gen + 1))).cell? ⟨s, 0, none⟩ = some (.slice (some ⟨g, 0, none⟩) l.length cp) := cell_of hst3 rfl
      have d1 := hcell3 3 _ rfl
      have d2 := hfz3 (i * 4 + 3)
      obtain ⟨ho, hgb⟩ := own_set vals_len hrow3.own HX.out (y := { x with online := is }) 3 (by decide) (.bool is) rfl
      have hst4 : ((w2.setCell ⟨s, 1, none⟩ (.int .i64 (gen + 1))).setCell ⟨g, i * 4 + 3, none⟩ (.bool is)).heap[s]? = some (.cells #[.slice (some ⟨g, 0, none⟩) l.length cp, .int .i64 (gen + 1)] 57 (0, 0)) := (set_other (p := ⟨g, i * 4 + 3, none⟩) (Ne.symm hne) _).trans hst3
      have hok : ∀ y ∈ l.set i { x with online := is }, wf y := by
        intro y hy
        rcases List.mem_or_eq_of_mem_set hy with hy | rfl
        · exact HH.out.row.ok y hy
        · exact HH.out.row.ok x (List.mem_of_getElem? HX.out)
      have HE := Lib.hid (show APost s (.slice (some ⟨g, 0, none⟩) l.length cp) w (act l gen (kindOf is) c q) (.returned (.bool true)) ((w2.setCell ⟨s, 1, none⟩ (.int .i64 (gen + 1))).setCell ⟨g, i * 4 + 3, none⟩ (.bool is)) by
        rw [HR.out]
        refine ⟨_, rfl, ⟨hst4, ?_, hok⟩, ((Tch.of_below hb).setCell (p := ⟨s, 1, none⟩) (.inl (by simp)) _).setCell (p := ⟨g, i * 4 + 3, none⟩) (.inl (by simp [Value.ownBlock])) _, fun k hk => .inl hk⟩
        show World.ownsRow _ 0 66 4 _ (l.set i { x with online := is }).length _
        rw [List.length_set]
        exact ho)
      clear hb h2 hfz hcell hst3 hrow3 hfz3 hcell3 ho hgb hst4 hok
      go_wp2_with fail
      go_ret
      exact HE.out
theorem put4 {w : World} {b : Nat} {a0 a1 a2 a3 : Value} {t : TypeId} (h : w.heap[b]? = some (.cells #[a0, a1, a2, a3] t (0, 0))) (u0 u1 u2 u3 : Value) :
    ((((w.setCell ⟨b, 0, none⟩ u0).setCell ⟨b, 1, none⟩ u1).setCell ⟨b, 2, none⟩ u2).setCell ⟨b, 3, none⟩ u3).heap[b]? = some (.cells #[u0, u1, u2, u3] t (0, 0)) := set_of (set_of (set_of (set_of h 0 u0) 1 u1) 2 u2) 3 u3
theorem put4_below {w w2 : World} (h : Below w.heap.size w w2) (u0 u1 u2 u3 : Value) :
    Below w.heap.size w ((((w2.setCell ⟨w.heap.size, 0, none⟩ u0).setCell ⟨w.heap.size, 1, none⟩ u1).setCell ⟨w.heap.size, 2, none⟩ u2).setCell ⟨w.heap.size, 3, none⟩ u3) :=
  (((((Tch.of_below (S := []) h).setCell (p := ⟨w.heap.size, 0, none⟩) (.inr (Nat.le_refl _)) u0).setCell (p := ⟨w.heap.size, 1, none⟩) (.inr (Nat.le_refl _)) u1).setCell (p := ⟨w.heap.size, 2, none⟩) (.inr (Nat.le_refl _)) u2).setCell (p := ⟨w.heap.size, 3, none⟩) (.inr (Nat.le_refl _)) u3).below (Nat.le_refl _) (by simp)
def zero : Mem := ⟨ByteArray.empty, 0, 0, false⟩
set_option maxRecDepth 100000 in
set_option maxHeartbeats 2000000 in
theorem get_any (w : World) (s : Nat) (v : Value) (l : List Mem) (gen : Int) (h : At w s v l gen) (c : ByteArray) :
    Calls Try.prog 47 #[.pointer (some ⟨s, 0, none⟩), .string c] w fun e w' => e = .returned (.tuple #[val ((MemP.get l c).getD zero), .bool (MemP.get l c).isSome]) ∧ Below w.heap.size w w' := by
  have hb0 := alloc_below w (.cells (vals zero).toArray 66)
  have h0 := h.below hb0
  have HF := Lib.hid (find_any _ s v l gen h0 c)
  have HH := Lib.hid h0
  have HB0 := Lib.hid hb0
  cases hf : find l c with
  | none =>
    rw [fidx_none hf] at HF
    have HG := Lib.hid (show MemP.get l c = none by unfold MemP.get; rw [hf]; rfl)
    clear h hf h0 hb0
    unfold vals at HF HB0
    go_enter Try.func47, Try.ntmps47
    go_wp2_with fail
    refine HF.out.mono ?_
    rintro e w2 ⟨rfl, hb⟩
    have HB := Lib.hid (then_below HB0.out hb)
    have hbl := hb.block w.heap.size (by simp)
    have z := heap_alloc_new w (.cells #[.string zero.client, .int .i64 zero.since, .int .i64 zero.qos, .bool zero.online] 66)
    have c0 : w2.cell? ⟨w.heap.size, 0, none⟩ = some (.string ByteArray.empty) := cell_of (hbl.trans z) rfl
    have c1 : w2.cell? ⟨w.heap.size, 1, none⟩ = some (.int .i64 0) := cell_of (hbl.trans z) rfl
    have c2 : w2.cell? ⟨w.heap.size, 2, none⟩ = some (.int .i64 0) := cell_of (hbl.trans z) rfl
    have c3 : w2.cell? ⟨w.heap.size, 3, none⟩ = some (.bool false) := cell_of (hbl.trans z) rfl
    have f0 := free_of (hbl.trans z) 0
    have f1 := free_of (hbl.trans z) 1
    have f2 := free_of (hbl.trans z) 2
    have f3 := free_of (hbl.trans z) 3
    have hp := put4 (hbl.trans z) (.string ⟨#[]⟩) (.int .i64 0) (.int .i64 0) (.bool false)
    have p0 := cell_of hp (o := 0) (v := .string ⟨#[]⟩) rfl
    have p1 := cell_of hp (o := 1) (v := .int .i64 0) rfl
    have p2 := cell_of hp (o := 2) (v := .int .i64 0) rfl
    have p3 := cell_of hp (o := 3) (v := .bool false) rfl
    have HBE := Lib.hid (put4_below HB.out (.string ⟨#[]⟩) (.int .i64 0) (.int .i64 0) (.bool false))
    clear hb hbl z hp
    go_wp2_with fail
    exact bodyPost_ret (v := .tuple #[.agg #[.string ⟨#[]⟩, .int .i64 0, .int .i64 0, .bool false], .bool false]) (by simp [results, Try.results47, go_sem, *]) rfl ⟨by rw [HG.out]; rfl, HBE.out⟩
  | some i =>
    obtain ⟨x, hx, -, hi⟩ := find_some hf
    rw [fidx_some hf] at HF
    have hgt : ¬ ((i : Int) < 0) := by omega
    have HG := Lib.hid (show MemP.get l c = some x by unfold MemP.get; rw [hf]; exact hx)
    clear h hf h0 hb0
    have HX := Lib.hid hx
    clear hx
    unfold vals at HF HB0
    go_enter Try.func47, Try.ntmps47
    go_wp2_with fail
    refine HF.out.mono ?_
    rintro e w2 ⟨rfl, hb⟩
    have h2 := HH.out.below hb
    obtain ⟨g, cp, rfl, hfz, hcell⟩ := own_elem vals_len h2.row.own HX.out
    have s0 : w2.cell? ⟨s, 0, none⟩ = some (.slice (some ⟨g, 0, none⟩) l.length cp) := cell_of h2.st rfl
    have e0 := hcell 0 _ rfl
    have e1 := hcell 1 _ rfl
    have e2 := hcell 2 _ rfl
    have e3 := hcell 3 _ rfl
    simp only [Nat.add_zero] at e0
    have HB := Lib.hid (then_below HB0.out hb)
    have hbl := hb.block w.heap.size (by simp)
    have z := heap_alloc_new w (.cells #[.string zero.client, .int .i64 zero.since, .int .i64 zero.qos, .bool zero.online] 66)
    have c0 : w2.cell? ⟨w.heap.size, 0, none⟩ = some (.string ByteArray.empty) := cell_of (hbl.trans z) rfl
    have c1 : w2.cell? ⟨w.heap.size, 1, none⟩ = some (.int .i64 0) := cell_of (hbl.trans z) rfl
    have c2 : w2.cell? ⟨w.heap.size, 2, none⟩ = some (.int .i64 0) := cell_of (hbl.trans z) rfl
    have c3 : w2.cell? ⟨w.heap.size, 3, none⟩ = some (.bool false) := cell_of (hbl.trans z) rfl
    have f0 := free_of (hbl.trans z) 0
    have f1 := free_of (hbl.trans z) 1
    have f2 := free_of (hbl.trans z) 2
    have f3 := free_of (hbl.trans z) 3
    have hp := put4 (hbl.trans z) (.string x.client) (.int .i64 x.since) (.int .i64 x.qos) (.bool x.online)
    have p0 := cell_of hp (o := 0) (v := .string x.client) rfl
    have p1 := cell_of hp (o := 1) (v := .int .i64 x.since) rfl
    have p2 := cell_of hp (o := 2) (v := .int .i64 x.qos) rfl
    have p3 := cell_of hp (o := 3) (v := .bool x.online) rfl
    have HBE := Lib.hid (put4_below HB.out (.string x.client) (.int .i64 x.since) (.int .i64 x.qos) (.bool x.online))
    clear hb hbl z hp h2 hfz hcell
    go_wp2_with fail
    exact bodyPost_ret (v := .tuple #[.agg #[.string x.client, .int .i64 x.since, .int .i64 x.qos, .bool x.online], .bool true]) (by simp [results, Try.results47, go_sem, *]) rfl ⟨by rw [HG.out]; rfl, HBE.out⟩

/-! ### Here, Owner -/
theorem here_take {l : List Mem} {k : Nat} {x : Mem} (h : l[k]? = some x) : here (l.take (k + 1)) = if x.online = true then here (l.take k) ++ [x.client] else here (l.take k) := by
  obtain ⟨hk, hx⟩ := List.getElem?_eq_some_iff.1 h
  unfold here
  rw [List.take_succ_eq_append_getElem hk, List.filter_append, hx]
  cases hq : x.online <;> simp [hq]
theorem here_len (l : List Mem) : (here l).length ≤ l.length := by unfold here; rw [List.length_map]; exact List.length_filter_le _ _
set_option maxRecDepth 100000 in
set_option maxHeartbeats 2000000 in
theorem here_any (w : World) (s : Nat) (v : Value) (l : List Mem) (gen : Int) (h : At w s v l gen) (hl : l.length < 1000000) :
    Calls Try.prog 52 #[.pointer (some ⟨s, 0, none⟩)] w fun e w' => (∃ v, e = .returned v ∧ OwnS w' v (here l)) ∧ Below w.heap.size w w' := by
  generalize hP : (fun (e : Ending) (w' : World) => (∃ v, e = .returned v ∧ OwnS w' v (here l)) ∧ Below w.heap.size w w') = PP
  have HPP := Lib.hid (show ∀ (v : Value) (w' : World), OwnS w' v (here l) → Below w.heap.size w w' → PP (.returned v) w' by
    intro v w' h hb
    rw [← hP]
    exact ⟨⟨v, rfl, h⟩, hb⟩)
  clear hP
  have HA := Lib.hid (all_any w s v l gen h hl)
  clear h
  go_enter Try.func52, Try.ntmps52
  go_wp2_with fail
  refine HA.out.mono ?_
  rintro e w2 ⟨⟨va, rfl, hr⟩, hb⟩
  obtain ⟨A, cap, rfl, hS⟩ := hr.form
  have HS := Lib.hid hS
  have HB0 := Lib.hid hb
  clear hr hS hb
  go_wp2
  go_loopw [3, 9] (fun v x wr => ∃ k : Nat, k ≤ l.length ∧ x = .int .i64 k ∧ Below w2.heap.size w2 wr ∧ OwnS wr v (here (l.take k)) ∧ Newer w2 v) (fun _ x _ => l.length - (intOf x).toNat)
  case atStart => exact ⟨0, by omega, rfl, Below.refl _ _, ⟨own_nil _ 9 1, by simp [here]⟩, PickW.Newer.nil _⟩
  case round =>
    obtain ⟨k, hk, rfl, hB, hO, hN⟩ := hrel
    have HB := Lib.hid hB
    have HN := Lib.hid hN
    clear hN
    by_cases hlt : k < l.length
    · obtain ⟨x, hx⟩ : ∃ x, l[k]? = some x := ⟨_, List.getElem?_eq_getElem hlt⟩
      have HT := here_take hx
      have hlen := here_len (l.take k)
      rw [List.length_take] at hlen
      obtain ⟨b, off, rfl, hb, c0, c1, c2, c3, hw⟩ := mem_cells (HS.out.below hB) hx
      have HX := Lib.hid hw
      have HR := Lib.hid (show x.online = true → ∃ v' w', (Builtin.append_ #[26, 26] 26 #[u3, .slice (some ⟨wr.heap.size + 1, 0, none⟩) 1 1]).run Try.prog ((wr.alloc (.cells #[.string x.client, .int .i64 x.since, .int .i64 x.qos, .bool true] 66)).alloc (.cells #[.string x.client] 9)) = .ok v' w' ∧
          Below w2.heap.size w2 w' ∧ OwnS w' v' (here (l.take (k + 1))) ∧ Newer w2 v' by
        intro hq
        have hb1 := alloc_below wr (.cells #[.string x.client, .int .i64 x.since, .int .i64 x.qos, .bool true] 66)
        obtain ⟨v', w', hr, ho, ht, hloc⟩ := (hO.below hb1).snoc (by omega) x.client hw.1
        have hs : (wr.alloc (.cells #[.string x.client, .int .i64 x.since, .int .i64 x.qos, .bool true] 66)).heap.size = wr.heap.size + 1 := by simp
        rw [hs] at hr
        rw [HT, if_pos hq]
        exact ⟨v', w', hr, HN.out.below (then_below hB hb1) ht, ho, HN.out.step (then_below hB hb1) hloc⟩)
      have HF := Lib.hid (show x.online = false → Below w2.heap.size w2 (wr.alloc (.cells #[.string x.client, .int .i64 x.since, .int .i64 x.qos, .bool false] 66)) ∧ OwnS (wr.alloc (.cells #[.string x.client, .int .i64 x.since, .int .i64 x.qos, .bool false] 66)) u3 (here (l.take (k + 1))) by
        intro hq
        rw [HT, if_neg (by rw [hq]; decide)]
        exact ⟨then_below hB (alloc_below wr _), hO.below (alloc_below wr _)⟩)
      obtain ⟨A', cp', rfl, -⟩ := hO.form
      clear hO HT hb hw hx hB
      generalize x.online = on at c3 HR HF
      cases on with
      | false =>
        go_wp2
        go_roundw
        case rel => exact ⟨k + 1, by omega, by go_num, (HF.out rfl).1, (HF.out rfl).2, HN.out⟩
        case measure => simp [intOf]; omega
      | true =>
        obtain ⟨v', w', hr, hb', ho', hn'⟩ := HR.out rfl
        have HRUN := Lib.hid hr
        have HB' := Lib.hid hb'
        have HO' := Lib.hid ho'
        have HN' := Lib.hid hn'
        clear hr hb' ho' hn' HR HF
        go_wp2_with (at_builtin; refine wpList_append_eq rfl _ _ _ rfl rfl rfl HRUN.out ?_)
        go_roundw
        case rel => exact ⟨k + 1, by omega, by go_num, HB'.out, HO'.out, HN'.out⟩
        case measure => simp [intOf]; omega
    · obtain rfl : k = l.length := by omega
      rw [List.take_length] at hO
      have HE := Lib.hid (HPP.out _ _ hO (then_below HB0.out hB))
      obtain ⟨A', c', rfl, -⟩ := hO.form
      clear hB hO
      go_wp2
      exact HE.out
theorem own_str {w : World} {v : Value} {l : List ByteArray} (h : OwnS w v l) {k : Nat} {x : ByteArray} (hx : l[k]? = some x) : ∃ b off c, v = .slice (some ⟨b, off, none⟩) l.length c ∧ w.cell? ⟨b, off + k, none⟩ = some (.string x) := by
  obtain ⟨A, c, rfl, hS⟩ := h.form
  obtain ⟨b, off, rfl, hb, hc⟩ := hS.at_ (by have := (List.getElem?_eq_some_iff.1 hx).1; omega)
  obtain ⟨cs, ⟨rfl, _⟩, hcell⟩ := hc k x hx
  have := hcell 0 _ rfl
  rw [cells9, Nat.mul_one, Nat.add_zero] at this
  exact ⟨b, off, c, rfl, this⟩
set_option maxRecDepth 100000 in
set_option maxHeartbeats 2000000 in
theorem owner_any (w : World) (s : Nat) (v : Value) (l : List Mem) (gen : Int) (h : At w s v l gen) (hl : l.length < 1000000) :
    Calls Try.prog 54 #[.pointer (some ⟨s, 0, none⟩)] w fun e w' => e = .returned (.string (owner l)) ∧ Below w.heap.size w w' := by
  have HA := Lib.hid (here_any w s v l gen h hl)
  have hbd := here_len l
  clear h
  go_enter Try.func54, Try.ntmps54
  go_wp2_with fail
  refine HA.out.mono ?_
  rintro e w2 ⟨⟨va, rfl, ho⟩, hb⟩
  have HB := Lib.hid hb
  clear hb
  cases hh : here l with
  | nil =>
    have HO := Lib.hid (show owner l = ⟨#[]⟩ by unfold owner; rw [hh]; rfl)
    rw [hh] at ho
    obtain ⟨A, c, rfl, -⟩ := ho.form
    clear ho hh
    go_wp2
    go_ret
    exact ⟨by rw [HO.out]; rfl, HB.out⟩
  | cons x r =>
    have HO := Lib.hid (show owner l = x by unfold owner; rw [hh]; rfl)
    rw [hh] at ho hbd
    obtain ⟨b, off, c, rfl, hcell⟩ := own_str ho (k := 0) (x := x) rfl
    rw [Nat.add_zero] at hcell
    have hp : (0 : Int) < (r.length : Int) + 1 := by omega
    have hq : ¬ ((r.length : Int) + 1 = 0) := by omega
    rw [List.length_cons] at hbd
    clear ho hh
    go_wp2
    go_ret
    exact ⟨by rw [HO.out]; rfl, HB.out⟩
end Go.Proofs.Ytclhgnlhejohgaa.MemW
