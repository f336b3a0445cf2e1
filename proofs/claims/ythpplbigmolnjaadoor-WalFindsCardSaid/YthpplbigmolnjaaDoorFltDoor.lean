/- What the row's listed variables give: the seven errors, and errors.As's own variable. -/
import Derived.Test.YthpplbigmolnjaaDoorRows
import Derived.Test.YthpplbigmolnjaaDoorFltI
import Derived.ProofKit
import Derived.LaidMore
import Derived.Stop.LaidTwo
set_option linter.unusedVariables false
namespace Go.Proofs.YthpplbigmolnjaaDoor.FltW
open Go Go.ChangeShapes Go.WideShapes Go.ChangeAt Go.RowKit

theorem et : Tryd.prog.globalNamed "errors.errorType" = some 7 := by kernel_rfl
theorem rt : (Tryd.prog.cutTypes.find? (·.1 == "internal/reflectlite.rtype")).map (·.2) = some 100 := by kernel_rfl
theorem handle_hh : typeHandle Tryd.prog 24 = .pointer (some ⟨11, 24, none⟩) := by kernel_rfl
theorem oneRow : ((List.range Tryd.prog.types.size).filter fun t => Tryd.prog.rowNamed t [101, 114, 114, 111, 114]) = [24] := by kernel_rfl
theorem split_laid {W : World} (h : laidMetH Tryd.prog Rows.faultDeeperRow.laid W) : laidMet Tryd.prog (Rows.faultDeeperRow.laid.tail) W ∧ handlesMet Tryd.prog [("errors.errorType", Rows.laid_errors_errorType)] W := h
theorem gv0 : Tryd.prog.globalNamed "towncrier/api.ErrShort" = some 0 := by kernel_rfl
theorem tv0 : (Tryd.prog.globals[0]?).map (·.type) = some 24 := by kernel_rfl
theorem gv1 : Tryd.prog.globalNamed "towncrier/api.ErrMalformed" = some 1 := by kernel_rfl
theorem tv1 : (Tryd.prog.globals[1]?).map (·.type) = some 24 := by kernel_rfl
theorem gv2 : Tryd.prog.globalNamed "towncrier/api.ErrProtocol" = some 2 := by kernel_rfl
theorem tv2 : (Tryd.prog.globals[2]?).map (·.type) = some 24 := by kernel_rfl
theorem gv3 : Tryd.prog.globalNamed "towncrier/api.ErrTooLarge" = some 3 := by kernel_rfl
theorem tv3 : (Tryd.prog.globals[3]?).map (·.type) = some 24 := by kernel_rfl
theorem gv4 : Tryd.prog.globalNamed "towncrier/api.ErrQuota" = some 4 := by kernel_rfl
theorem tv4 : (Tryd.prog.globals[4]?).map (·.type) = some 24 := by kernel_rfl
theorem gv5 : Tryd.prog.globalNamed "towncrier/api.ErrState" = some 5 := by kernel_rfl
theorem tv5 : (Tryd.prog.globals[5]?).map (·.type) = some 24 := by kernel_rfl
theorem gv6 : Tryd.prog.globalNamed "towncrier/api.ErrArgument" = some 6 := by kernel_rfl
theorem tv6 : (Tryd.prog.globals[6]?).map (·.type) = some 24 := by kernel_rfl
theorem star : "*" ++ "errors.errorString" = "*errors.errorString" := by decide
theorem hrow_err (u : TypeId) (h : Tryd.prog.typeName? 3 u = some "*errors.errorString") : u = 96 :=
  typeName_ptr_named (nm := "errors.errorString") (by rw [star]; kernel_rfl) (by kernel_rfl) (by decide) u (by rw [star]; exact h)
set_option maxRecDepth 100000 in
set_option maxHeartbeats 4000000 in
theorem env_of {W : World} (h : laidMetH Tryd.prog Rows.faultDeeperRow.laid W) : ∃ a, EnvF W a := by
  obtain ⟨h, hh⟩ := split_laid h
  obtain ⟨ps, ⟨g0, t0, cs0, f0, p0, q0, hg0, ht0, hv0, hd0, ⟨g1, t1, cs1, f1, p1, q1, hg1, ht1, hv1, hd1, ⟨g2, t2, cs2, f2, p2, q2, hg2, ht2, hv2, hd2, ⟨g3, t3, cs3, f3, p3, q3, hg3, ht3, hv3, hd3, ⟨g4, t4, cs4, f4, p4, q4, hg4, ht4, hv4, hd4, ⟨g5, t5, cs5, f5, p5, q5, hg5, ht5, hv5, hd5, ⟨g6, t6, cs6, f6, p6, q6, hg6, ht6, hv6, hd6, hlast, e6⟩, e5⟩, e4⟩, e3⟩, e2⟩, e1⟩, e0⟩, hnd, hrows⟩ := h
  obtain rfl := Option.some.inj (gv0.symm.trans hg0)
  obtain rfl := Option.some.inj (tv0.symm.trans ht0)
  obtain rfl := Option.some.inj (gv1.symm.trans hg1)
  obtain rfl := Option.some.inj (tv1.symm.trans ht1)
  obtain rfl := Option.some.inj (gv2.symm.trans hg2)
  obtain rfl := Option.some.inj (tv2.symm.trans ht2)
  obtain rfl := Option.some.inj (gv3.symm.trans hg3)
  obtain rfl := Option.some.inj (tv3.symm.trans ht3)
  obtain rfl := Option.some.inj (gv4.symm.trans hg4)
  obtain rfl := Option.some.inj (tv4.symm.trans ht4)
  obtain rfl := Option.some.inj (gv5.symm.trans hg5)
  obtain rfl := Option.some.inj (tv5.symm.trans ht5)
  obtain rfl := Option.some.inj (gv6.symm.trans hg6)
  obtain rfl := Option.some.inj (tv6.symm.trans ht6)
  subst e6
  subst e5
  subst e4
  subst e3
  subst e2
  subst e1
  subst e0
  obtain ⟨l0⟩ := cs0
  have ok0 : ∀ u v, l0 = [.iface u v] → Value.okWide Tryd.prog W .any 0 u v := fun u v e => by
    subst e
    exact (hrows 0 0 (by simp [MemPlace.row])).2 u v (by simpa using World.var?_cell hg0 hv0 0)
  obtain ⟨l1⟩ := cs1
  have ok1 : ∀ u v, l1 = [.iface u v] → Value.okWide Tryd.prog W .any 0 u v := fun u v e => by
    subst e
    exact (hrows 1 0 (by simp [MemPlace.row])).2 u v (by simpa using World.var?_cell hg1 hv1 0)
  obtain ⟨l2⟩ := cs2
  have ok2 : ∀ u v, l2 = [.iface u v] → Value.okWide Tryd.prog W .any 0 u v := fun u v e => by
    subst e
    exact (hrows 2 0 (by simp [MemPlace.row])).2 u v (by simpa using World.var?_cell hg2 hv2 0)
  obtain ⟨l3⟩ := cs3
  have ok3 : ∀ u v, l3 = [.iface u v] → Value.okWide Tryd.prog W .any 0 u v := fun u v e => by
    subst e
    exact (hrows 3 0 (by simp [MemPlace.row])).2 u v (by simpa using World.var?_cell hg3 hv3 0)
  obtain ⟨l4⟩ := cs4
  have ok4 : ∀ u v, l4 = [.iface u v] → Value.okWide Tryd.prog W .any 0 u v := fun u v e => by
    subst e
    exact (hrows 4 0 (by simp [MemPlace.row])).2 u v (by simpa using World.var?_cell hg4 hv4 0)
  obtain ⟨l5⟩ := cs5
  have ok5 : ∀ u v, l5 = [.iface u v] → Value.okWide Tryd.prog W .any 0 u v := fun u v e => by
    subst e
    exact (hrows 5 0 (by simp [MemPlace.row])).2 u v (by simpa using World.var?_cell hg5 hv5 0)
  obtain ⟨l6⟩ := cs6
  have ok6 : ∀ u v, l6 = [.iface u v] → Value.okWide Tryd.prog W .any 0 u v := fun u v e => by
    subst e
    exact (hrows 6 0 (by simp [MemPlace.row])).2 u v (by simpa using World.var?_cell hg6 hv6 0)
  obtain ⟨a0, s0, rfl, hc0, hs0, hz0, rfl⟩ := errorString_of_trod Tryd.underlying24 hrow_err Tryd.underlying96 Tryd.underlying98 rfl rfl Tryd.underlying9 (by kernel_rfl) (by kernel_rfl) hd0 ok0
  obtain ⟨a1, s1, rfl, hc1, hs1, hz1, rfl⟩ := errorString_of_trod Tryd.underlying24 hrow_err Tryd.underlying96 Tryd.underlying98 rfl rfl Tryd.underlying9 (by kernel_rfl) (by kernel_rfl) hd1 ok1
  obtain ⟨a2, s2, rfl, hc2, hs2, hz2, rfl⟩ := errorString_of_trod Tryd.underlying24 hrow_err Tryd.underlying96 Tryd.underlying98 rfl rfl Tryd.underlying9 (by kernel_rfl) (by kernel_rfl) hd2 ok2
  obtain ⟨a3, s3, rfl, hc3, hs3, hz3, rfl⟩ := errorString_of_trod Tryd.underlying24 hrow_err Tryd.underlying96 Tryd.underlying98 rfl rfl Tryd.underlying9 (by kernel_rfl) (by kernel_rfl) hd3 ok3
  obtain ⟨a4, s4, rfl, hc4, hs4, hz4, rfl⟩ := errorString_of_trod Tryd.underlying24 hrow_err Tryd.underlying96 Tryd.underlying98 rfl rfl Tryd.underlying9 (by kernel_rfl) (by kernel_rfl) hd4 ok4
  obtain ⟨a5, s5, rfl, hc5, hs5, hz5, rfl⟩ := errorString_of_trod Tryd.underlying24 hrow_err Tryd.underlying96 Tryd.underlying98 rfl rfl Tryd.underlying9 (by kernel_rfl) (by kernel_rfl) hd5 ok5
  obtain ⟨a6, s6, rfl, hc6, hs6, hz6, rfl⟩ := errorString_of_trod Tryd.underlying24 hrow_err Tryd.underlying96 Tryd.underlying98 rfl rfl Tryd.underlying9 (by kernel_rfl) (by kernel_rfl) hd6 ok6
  obtain ⟨c0, r0, hb0⟩ := (hrows a0.block a0.off (by simp [MemPlace.row])).1
  obtain ⟨c1, r1, hb1⟩ := (hrows a1.block a1.off (by simp [MemPlace.row])).1
  obtain ⟨c2, r2, hb2⟩ := (hrows a2.block a2.off (by simp [MemPlace.row])).1
  obtain ⟨c3, r3, hb3⟩ := (hrows a3.block a3.off (by simp [MemPlace.row])).1
  obtain ⟨c4, r4, hb4⟩ := (hrows a4.block a4.off (by simp [MemPlace.row])).1
  obtain ⟨c5, r5, hb5⟩ := (hrows a5.block a5.off (by simp [MemPlace.row])).1
  obtain ⟨c6, r6, hb6⟩ := (hrows a6.block a6.off (by simp [MemPlace.row])).1
  have has : AsVar W := by
    obtain ⟨name, u, ty, x1, x2, x3, x4, x5⟩ := hh _ (List.mem_singleton.2 rfl)
    have en : name = [101, 114, 114, 111, 114] := (Option.some.inj x1).symm
    subst en
    obtain rfl := Option.some.inj (rt.symm.trans x2)
    have hm : ty ∈ (List.range Tryd.prog.types.size).filter fun t => Tryd.prog.rowNamed t [101, 114, 114, 111, 114] := List.mem_filter.2 ⟨List.mem_range.2 x3, x4⟩
    rw [oneRow] at hm
    obtain rfl := List.mem_singleton.1 hm
    rw [handle_hh] at x5
    unfold AsVar
    simpa using World.var?_cell et x5 0
  have n0_1 : a0 ≠ a1 := by
    intro e
    subst e
    simp [MemPlace.row] at hnd
  have n0_2 : a0 ≠ a2 := by
    intro e
    subst e
    simp [MemPlace.row] at hnd
  have n0_3 : a0 ≠ a3 := by
    intro e
    subst e
    simp [MemPlace.row] at hnd
  have n0_4 : a0 ≠ a4 := by
    intro e
    subst e
    simp [MemPlace.row] at hnd
  have n0_5 : a0 ≠ a5 := by
    intro e
    subst e
    simp [MemPlace.row] at hnd
  have n0_6 : a0 ≠ a6 := by
    intro e
    subst e
    simp [MemPlace.row] at hnd
  have n1_2 : a1 ≠ a2 := by
    intro e
    subst e
    simp [MemPlace.row] at hnd
  have n1_3 : a1 ≠ a3 := by
    intro e
    subst e
    simp [MemPlace.row] at hnd
  have n1_4 : a1 ≠ a4 := by
    intro e
    subst e
    simp [MemPlace.row] at hnd
  have n1_5 : a1 ≠ a5 := by
    intro e
    subst e
    simp [MemPlace.row] at hnd
  have n1_6 : a1 ≠ a6 := by
    intro e
    subst e
    simp [MemPlace.row] at hnd
  have n2_3 : a2 ≠ a3 := by
    intro e
    subst e
    simp [MemPlace.row] at hnd
  have n2_4 : a2 ≠ a4 := by
    intro e
    subst e
    simp [MemPlace.row] at hnd
  have n2_5 : a2 ≠ a5 := by
    intro e
    subst e
    simp [MemPlace.row] at hnd
  have n2_6 : a2 ≠ a6 := by
    intro e
    subst e
    simp [MemPlace.row] at hnd
  have n3_4 : a3 ≠ a4 := by
    intro e
    subst e
    simp [MemPlace.row] at hnd
  have n3_5 : a3 ≠ a5 := by
    intro e
    subst e
    simp [MemPlace.row] at hnd
  have n3_6 : a3 ≠ a6 := by
    intro e
    subst e
    simp [MemPlace.row] at hnd
  have n4_5 : a4 ≠ a5 := by
    intro e
    subst e
    simp [MemPlace.row] at hnd
  have n4_6 : a4 ≠ a6 := by
    intro e
    subst e
    simp [MemPlace.row] at hnd
  have n5_6 : a5 ≠ a6 := by
    intro e
    subst e
    simp [MemPlace.row] at hnd
  have w0 : W.cell? ⟨0, 0, none⟩ = some (.iface 96 (.pointer (some a0))) := by simpa using World.var?_cell hg0 hv0 0
  have w1 : W.cell? ⟨1, 0, none⟩ = some (.iface 96 (.pointer (some a1))) := by simpa using World.var?_cell hg1 hv1 0
  have w2 : W.cell? ⟨2, 0, none⟩ = some (.iface 96 (.pointer (some a2))) := by simpa using World.var?_cell hg2 hv2 0
  have w3 : W.cell? ⟨3, 0, none⟩ = some (.iface 96 (.pointer (some a3))) := by simpa using World.var?_cell hg3 hv3 0
  have w4 : W.cell? ⟨4, 0, none⟩ = some (.iface 96 (.pointer (some a4))) := by simpa using World.var?_cell hg4 hv4 0
  have w5 : W.cell? ⟨5, 0, none⟩ = some (.iface 96 (.pointer (some a5))) := by simpa using World.var?_cell hg5 hv5 0
  have w6 : W.cell? ⟨6, 0, none⟩ = some (.iface 96 (.pointer (some a6))) := by simpa using World.var?_cell hg6 hv6 0
  clear hnd hrows
  refine ⟨fun i => match i with | 0 => a0 | 1 => a1 | 2 => a2 | 3 => a3 | 4 => a4 | 5 => a5 | _ => a6, ⟨?_, ?_, ?_, has⟩⟩
  · intro i hi
    match i, hi with
    | 0, _ => exact w0
    | 1, _ => exact w1
    | 2, _ => exact w2
    | 3, _ => exact w3
    | 4, _ => exact w4
    | 5, _ => exact w5
    | 6, _ => exact w6
  · intro i hi
    match i, hi with
    | 0, _ => exact ⟨_, _, hb0⟩
    | 1, _ => exact ⟨_, _, hb1⟩
    | 2, _ => exact ⟨_, _, hb2⟩
    | 3, _ => exact ⟨_, _, hb3⟩
    | 4, _ => exact ⟨_, _, hb4⟩
    | 5, _ => exact ⟨_, _, hb5⟩
    | 6, _ => exact ⟨_, _, hb6⟩
  · intro i j hi hj hij
    match i, j, hi, hj with
    | 0, 0, _, _ => exact absurd rfl hij
    | 0, 1, _, _ => exact n0_1
    | 0, 2, _, _ => exact n0_2
    | 0, 3, _, _ => exact n0_3
    | 0, 4, _, _ => exact n0_4
    | 0, 5, _, _ => exact n0_5
    | 0, 6, _, _ => exact n0_6
    | 1, 0, _, _ => exact n0_1.symm
    | 1, 1, _, _ => exact absurd rfl hij
    | 1, 2, _, _ => exact n1_2
    | 1, 3, _, _ => exact n1_3
    | 1, 4, _, _ => exact n1_4
    | 1, 5, _, _ => exact n1_5
    | 1, 6, _, _ => exact n1_6
    | 2, 0, _, _ => exact n0_2.symm
    | 2, 1, _, _ => exact n1_2.symm
    | 2, 2, _, _ => exact absurd rfl hij
    | 2, 3, _, _ => exact n2_3
    | 2, 4, _, _ => exact n2_4
    | 2, 5, _, _ => exact n2_5
    | 2, 6, _, _ => exact n2_6
    | 3, 0, _, _ => exact n0_3.symm
    | 3, 1, _, _ => exact n1_3.symm
    | 3, 2, _, _ => exact n2_3.symm
    | 3, 3, _, _ => exact absurd rfl hij
    | 3, 4, _, _ => exact n3_4
    | 3, 5, _, _ => exact n3_5
    | 3, 6, _, _ => exact n3_6
    | 4, 0, _, _ => exact n0_4.symm
    | 4, 1, _, _ => exact n1_4.symm
    | 4, 2, _, _ => exact n2_4.symm
    | 4, 3, _, _ => exact n3_4.symm
    | 4, 4, _, _ => exact absurd rfl hij
    | 4, 5, _, _ => exact n4_5
    | 4, 6, _, _ => exact n4_6
    | 5, 0, _, _ => exact n0_5.symm
    | 5, 1, _, _ => exact n1_5.symm
    | 5, 2, _, _ => exact n2_5.symm
    | 5, 3, _, _ => exact n3_5.symm
    | 5, 4, _, _ => exact n4_5.symm
    | 5, 5, _, _ => exact absurd rfl hij
    | 5, 6, _, _ => exact n5_6
    | 6, 0, _, _ => exact n0_6.symm
    | 6, 1, _, _ => exact n1_6.symm
    | 6, 2, _, _ => exact n2_6.symm
    | 6, 3, _, _ => exact n3_6.symm
    | 6, 4, _, _ => exact n4_6.symm
    | 6, 5, _, _ => exact n5_6.symm
    | 6, 6, _, _ => exact absurd rfl hij
end Go.Proofs.YthpplbigmolnjaaDoor.FltW
