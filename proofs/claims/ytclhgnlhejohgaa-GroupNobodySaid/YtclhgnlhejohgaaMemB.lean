/- Members: joined, gone, online. -/
import Derived.Test.YtclhgnlhejohgaaMemA
import Derived.Deep.RegionLaw
import Derived.Deep.DrawnRows
set_option linter.unusedVariables false
set_option linter.unusedSimpArgs false
namespace Go.Proofs.Ytclhgnlhejohgaa.MemW
open Go.RowKit Go.Proofs.Ytclhgnlhejohgaa.Tc Go.Proofs.Ytclhgnlhejohgaa.MemP
open Go.Proofs.Ytclhgnlhejohgaa.PickW (OwnS Newer kS kI cells9 str_cell strs_new alloc_below)

theorem Row.snoc {w : World} {v : Value} {l : List Mem} (h : Row w v l) (hl : l.length < 1000000) (x : Mem) (hx : wf x) :
    ∃ v' w', (Builtin.append_ #[55, 55] 55 #[v, .slice (some ⟨w.heap.size, 0, none⟩) 1 1]).run Try.prog (w.alloc (.cells (vals x).toArray 66)) = .ok v' w' ∧ Row w' v' (l ++ [x]) ∧ Tch v.ownBlock.toList w w' ∧
      (∀ g, v'.ownBlock = some g → v.ownBlock = some g ∨ w.heap.size ≤ g) := by
  obtain ⟨i0, hi, hz0, hz1, hz2⟩ := info_parts info66
  obtain ⟨v', w', hr, hown, ht, hloc, _⟩ := append_one (P := Try.prog) (ty := 55) Try.underlying55 hi hz0 hz1 hz2 rfl (by decide) h.own (vals x) rfl (by
    intro u hu
    simp [vals] at hu
    rcases hu with rfl | rfl | rfl | rfl <;> rfl) (by unfold maxLen; omega) (by omega)
  refine ⟨v', w', hr, ⟨by simpa using hown, ?_⟩, ht, hloc⟩
  intro y hy
  rcases List.mem_append.1 hy with hy | hy
  · exact h.ok y hy
  · rw [List.mem_singleton.1 hy]; exact hx
/-- What an act may turn, and where the members lie then. -/
structure Turn (s : Nat) (v : Value) (w w' : World) (v' : Value) : Prop where
  tch : Tch (s :: v.ownBlock.toList) w w'
  loc : ∀ g, v'.ownBlock = some g → v.ownBlock = some g ∨ w.heap.size ≤ g
/-- What an act answers. -/
def APost (s : Nat) (v : Value) (w : World) (r : Bool × List Mem × Int) (e : Ending) (w' : World) : Prop := ∃ v', e = .returned (.bool r.1) ∧ At w' s v' r.2.1 r.2.2 ∧ Turn s v w w' v'
/-- What an append comes to, at a step of a region that draws its order. -/
theorem step_append_eq {P : Program} {w w1 : World} {ops : Array Oper} {o : Oper} {a : Act} {K : Act → World → Prop} {Q : Exit → Act → World → Prop} {E : Prop} (hgd : o.guard = none) (s x : Operand) (t : TypeId)
    (ho : o.op = .call { callee := .builtin .append, args := #[s, x], argTypes := #[t, t] }) {v sl v' : Value} (hs : a.eval s = v) (hx : a.eval x = sl)
    (hr : (Builtin.append_ #[t, t] o.type #[v, sl]).run P w = .ok v' w1) (h : K (a.put o.dst v') w1) : if Region.wanted o (yielded ops a.tmps) = true then Oper.wp P o a w K Q else E := by
  have hw : Region.wanted o (yielded ops a.tmps) = true := by simp [Region.wanted, hgd]
  rw [if_pos hw]
  unfold Oper.wp execOp
  simp only [ho, resolve, invoke, builtin, Sem.run_bind, Sem.run_pure, Result.andThen_ok, List.map_toArray, List.map_cons, List.map_nil, hs, hx, hr]
  exact h
theorem gen_wf {g : Int} (h0 : 0 ≤ g) (h1 : g < 1000000) : (Lit.int .i64 (g + 1)).wf = true := by
  have h3 : IntKind.i64.min = -9223372036854775808 := rfl
  have h4 : IntKind.i64.max = 9223372036854775807 := rfl
  simp [Lit.wf, h3, h4]
  omega
set_option maxRecDepth 100000 in
set_option maxHeartbeats 2000000 in
theorem join_any (w : World) (s : Nat) (v : Value) (l : List Mem) (gen : Int) (h : At w s v l gen) (hl : l.length < 1000000) (hg0 : 0 ≤ gen) (hg1 : gen < 1000000) (c : ByteArray) (hc : c.size ≤ maxLen) (q : Int) (hq : (Lit.int .i64 q).wf = true) :
    Calls Try.prog 82 #[.pointer (some ⟨s, 0, none⟩), .string c, .int .i64 q] w (APost s v w (act l gen 1 c q)) := by
  have HF := Lib.hid (find_any w s v l gen h c)
  have HH := Lib.hid h
  cases hf : find l c with
  | some i =>
    obtain ⟨x, hx, _, hi⟩ := find_some hf
    rw [fidx_some hf] at HF
    have HR := Lib.hid (show act l gen 1 c q = (false, l.set i { x with qos := q }, gen) by simp [act, hf, hx])
    have hgt : ¬ ((i : Int) < 0) := by omega
    have HX := Lib.hid hx
    clear h hf hx
    go_enter Try.func82, Try.ntmps82
    go_wp2_with fail
    refine HF.out.mono ?_
    rintro e w2 ⟨rfl, hb⟩
    have h2 := HH.out.below hb
    obtain ⟨g, cp, rfl, hfz, hcell⟩ := own_elem vals_len h2.row.own HX.out
    obtain ⟨ho, hgb⟩ := own_set vals_len h2.row.own HX.out (y := { x with qos := q }) 2 (by decide) (.int .i64 q) rfl
    have hne := h2.ne g rfl
    have c0 : w2.cell? ⟨s, 0, none⟩ = some (.slice (some ⟨g, 0, none⟩) l.length cp) := cell_of h2.st rfl
    have c1 := hcell 2 _ rfl
    have hst2 : (w2.setCell ⟨g, i * 4 + 2, none⟩ (.int .i64 q)).heap[s]? = some (.cells #[.slice (some ⟨g, 0, none⟩) l.length cp, .int .i64 gen] 57 (0, 0)) := (set_other (p := ⟨g, i * 4 + 2, none⟩) (Ne.symm hne) _).trans h2.st
    have hok : ∀ y ∈ l.set i { x with qos := q }, wf y := by
      intro y hy
      rcases List.mem_or_eq_of_mem_set hy with hy | rfl
      · exact HH.out.row.ok y hy
      · have := HH.out.row.ok x (List.mem_of_getElem? HX.out)
        exact ⟨this.1, this.2.1, hq⟩
    have hf1 := hfz (i * 4 + 2)
    have HE := Lib.hid (show APost s (.slice (some ⟨g, 0, none⟩) l.length cp) w (act l gen 1 c q) (.returned (.bool false)) (w2.setCell ⟨g, i * 4 + 2, none⟩ (.int .i64 q)) by
      rw [HR.out]
      refine ⟨_, rfl, ⟨hst2, ?_, hok⟩, (Tch.of_below hb).setCell (p := ⟨g, i * 4 + 2, none⟩) (.inl (by simp [Value.ownBlock])) _, fun k hk => .inl hk⟩
      show World.ownsRow _ 0 66 4 _ (l.set i { x with qos := q }).length _
      rw [List.length_set]
      exact ho)
    clear h2 ho hgb hcell hst2 hok hb hfz
    go_wp2_with fail
    go_ret
    exact HE.out
  | none =>
    rw [fidx_none hf] at HF
    have HR := Lib.hid (show act l gen 1 c q = (true, l ++ [⟨c, gen + 1, q, true⟩], gen + 1) by simp [act, hf])
    clear h hf
    go_enter Try.func82, Try.ntmps82
    go_wp2_with fail
    refine HF.out.mono ?_
    rintro e w2 ⟨rfl, hb⟩
    have h2 := HH.out.below hb
    have c0 : w2.cell? ⟨s, 0, none⟩ = some v := cell_of h2.st rfl
    have c1 : w2.cell? ⟨s, 1, none⟩ = some (.int .i64 gen) := cell_of h2.st rfl
    have hf1 := free_of h2.st 1
    have hst3 : (w2.setCell ⟨s, 1, none⟩ (.int .i64 (gen + 1))).heap[s]? = some (.cells #[v, .int .i64 (gen + 1)] 57 (0, 0)) := set_of h2.st 1 (.int .i64 (gen + 1))
    have hrow3 : Row (w2.setCell ⟨s, 1, none⟩ (.int .i64 (gen + 1))).drew v l := h2.row.kept (S := [s]) ((Tch.refl _ w2).setCell (p := ⟨s, 1, none⟩) (.inl (by simp)) _).drew (by intro g hg; simpa using h2.ne g hg)
    have d0 : (w2.setCell ⟨s, 1, none⟩ (.int .i64 (gen + 1))).drew.cell? ⟨s, 0, none⟩ = some v := cell_of (show (w2.setCell ⟨s, 1, none⟩ (.int .i64 (gen + 1))).drew.heap[s]? = _ from hst3) rfl
    have d1 : (w2.setCell ⟨s, 1, none⟩ (.int .i64 (gen + 1))).drew.cell? ⟨s, 1, none⟩ = some (.int .i64 (gen + 1)) := cell_of (show (w2.setCell ⟨s, 1, none⟩ (.int .i64 (gen + 1))).drew.heap[s]? = _ from hst3) rfl
    have h3 : (w2.setCell ⟨s, 1, none⟩ (.int .i64 (gen + 1))).drew.heap.size = w2.heap.size := by simp
    have d2 : ((w2.setCell ⟨s, 1, none⟩ (.int .i64 (gen + 1))).alloc (.cells #[.string c, .int .i64 (gen + 1), .int .i64 q, .bool true] 66)).cell? ⟨s, 0, none⟩ = some v := Lib.cell?_alloc_some _ d0
    obtain ⟨v', w4, hr4, hR4, hT4, hL4⟩ := hrow3.snoc hl ⟨c, gen + 1, q, true⟩ ⟨hc, gen_wf hg0 hg1, hq⟩
    have hst4 : w4.heap[s]? = some (.cells #[v, .int .i64 (gen + 1)] 57 (0, 0)) := (hT4.block s (lt_of_block hst3) (by intro hs; exact h2.ne s (by simpa using hs) rfl)).trans hst3
    have e0 : w4.cell? ⟨s, 0, none⟩ = some v := cell_of hst4 rfl
    have ef := free_of hst4 0
    have hst5 : (w4.setCell ⟨s, 0, none⟩ v').heap[s]? = some (.cells #[v', .int .i64 (gen + 1)] 57 (0, 0)) := set_of hst4 0 v'
    have hne4 : ∀ g, v'.ownBlock = some g → g ≠ s := own_type_ne hR4.own hst4 (by decide)
    have HE := Lib.hid (show APost s v w (act l gen 1 c q) (.returned (.bool true)) (w4.setCell ⟨s, 0, none⟩ v') by
      rw [HR.out]
      refine ⟨v', rfl, ⟨hst5, hR4.kept (S := [s]) ((Tch.refl _ w4).setCell (p := ⟨s, 0, none⟩) (.inl (by simp)) _) (by intro g hg; simpa using hne4 g hg)⟩, ?_, ?_⟩
      · have t1 : Tch (s :: v.ownBlock.toList) w (w2.setCell ⟨s, 1, none⟩ (.int .i64 (gen + 1))).drew := ((Tch.of_below hb).setCell (p := ⟨s, 1, none⟩) (.inl (by simp)) _).drew
        exact (t1.then hT4 (fun i hi => .inl (by simp at hi ⊢; exact .inr hi))).setCell (p := ⟨s, 0, none⟩) (.inl (by simp)) _
      · intro g hg
        rcases hL4 g hg with h | h
        · exact .inl h
        · have := hb.size
          right
          omega)
    rw [h3] at hr4
    have HRUN := Lib.hid hr4
    obtain ⟨A, cap, rfl, -⟩ := h2.row.form
    obtain ⟨A', cap', rfl, -⟩ := hR4.form
    simp only [List.length_append, List.length_cons, List.length_nil, Nat.zero_add] at HE
    clear h2 h3 hst3 hrow3 hr4 hR4 hT4 hL4 hst4 hst5 hne4 hb
    go_upto_region 17 with (fail)
    go_region_law (refine step_append_eq (by rfl) _ _ _ (by rfl) (by rfl) (by rfl) HRUN.out ?_)
    all_goals go_wp2
    all_goals go_ret
    all_goals exact HE.out
theorem wpList_clear_eq {P : Program} {w w1 : World} {ops : Array Oper} {rest : List Oper} {o : Oper} {a : Act} {Q : Exit → Act → World → Prop} (hg : o.guard = none) (hd : o.dst = none) (x : Operand) (t : TypeId)
    (ho : o.op = .call { callee := .builtin .clear, args := #[x], argTypes := #[t] }) {sl : Value} (hx : a.eval x = sl)
    (hr : (Builtin.clear_ #[t] o.type #[sl]).run P w = .ok (.tuple #[]) w1) (hK : wpList P ops Q rest a w1) : wpList P ops Q (o :: rest) a w := by
  refine wpList_plain hg fun K' hK' => ?_
  unfold Oper.wp execOp
  simp only [ho, resolve, invoke, builtin, Sem.run_bind, Sem.run_pure, Result.andThen_ok, List.map_toArray, List.map_cons, List.map_nil, hx, hr]
  have h := hK' _ _ hK
  simpa [Oper.upon, hd, Act.put] using h
theorem zero66 (w : World) : (zeroValue 66).run Try.prog w = .ok (.agg #[.string ByteArray.empty, .int .i64 0, .int .i64 0, .bool false]) w := by kernel_rfl
/-- 'clear' of the one element behind n. -/
theorem clear_one {w : World} {g n c : Nat} {l : List Mem} (h : Row w (.slice (some ⟨g, 0, none⟩) n c) l) (hn : n = l.length) (hc : n + 1 ≤ c) :
    ∃ w', (Builtin.clear_ #[55] 0 #[.slice (some ⟨g, n * 4, none⟩) 1 (c - n)]).run Try.prog w = .ok (.tuple #[]) w' ∧ Row w' (.slice (some ⟨g, 0, none⟩) n c) l ∧ Tch [g] w w' := by
  subst hn
  rcases h.own.2 with ⟨h0, _⟩ | ⟨g', cap, cur, hv, hb, hh, h1, h2, h3, h4⟩
  · cases h0
  · injection hv with h5 h6 h7
    injection h5 with h5
    injection h5 with h5
    subst h5
    subst h7
    have hlen := h.own.1
    have hst := run_storeCells_at (P := Try.prog) g (l.length * 4) 66 [.string ByteArray.empty, .int .i64 0, .int .i64 0, .bool false] 0 cur w hh (by simp only [List.length_cons, List.length_nil]; omega) (by
      intro v hv
      simp at hv
      rcases hv with rfl | rfl | rfl | rfl <;> rfl)
    obtain ⟨nw, hnw⟩ : ∃ nw : List Value, nw = cur.toList.take (l.length * 4 + 0) ++ [.string ByteArray.empty, .int .i64 0, .int .i64 0, .bool false] ++ cur.toList.drop (l.length * 4 + 0 + [Value.string ByteArray.empty, .int .i64 0, .int .i64 0, .bool false].length) := ⟨_, rfl⟩
    rw [← hnw] at hst
    refine ⟨w.setRow g nw.toArray, ?_, ⟨⟨hlen, .inr ⟨g, c, nw.toArray, rfl, hb, setRow_heap w g cur _ 66 _ hh, h1, h2, ?_, ?_⟩⟩, h.ok⟩, ?_⟩
    · have hzc : (Builtin.zeroCells #[Value.string ByteArray.empty, .int .i64 0, .int .i64 0, .bool false] 1).toList = [.string ByteArray.empty, .int .i64 0, .int .i64 0, .bool false] := by kernel_rfl
      simp only [Builtin.clear_, List.getElem?_toArray, List.getElem?_cons_zero, run_underlying Try.underlying55, zero66, Sem.run_bind, Sem.run_pure, Result.andThen_ok, Value.cells, hzc, hst]
    · simp only [hnw, List.size_toArray, List.length_append, List.length_take, List.length_drop, Array.length_toList, List.length_cons, List.length_nil]
      omega
    · show List.take (l.length * 4) nw = _
      simp only [hnw, Nat.add_zero, List.append_assoc]
      rw [List.take_append_of_le_length (by simp; omega), List.take_take, Nat.min_self, h4]
    · refine ⟨rfl, rfl, rfl, by simp, fun k _ hk => setRow_other w g k _ (fun e => hk (by simp [e]))⟩
end Go.Proofs.Ytclhgnlhejohgaa.MemW
