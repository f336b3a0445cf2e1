/- Faults: kinds; what must come. -/
import Derived.Test.YthpplbigmolnjaaDoorFltF
set_option linter.unusedVariables false
set_option linter.unusedSimpArgs false
namespace Go.Proofs.YthpplbigmolnjaaDoor.FltW
open Go.RowKit Go.Proofs.YthpplbigmolnjaaDoor.Tc

set_option maxRecDepth 100000 in
set_option maxHeartbeats 1000000 in
theorem kind_yes (w : World) (a : Nat → Addr) (hE : EnvF w a) (i : Nat) (hi : i < 7) : Calls Tryd.prog 9 #[.int .i64 ((i : Int) + 1)] w fun e w' => e = .returned (.iface 96 (.pointer (some (a i)))) ∧ w = w' := by
  have v0 := hE.var 0 (by decide)
  have v1 := hE.var 1 (by decide)
  have v2 := hE.var 2 (by decide)
  have v3 := hE.var 3 (by decide)
  have v4 := hE.var 4 (by decide)
  have v5 := hE.var 5 (by decide)
  have v6 := hE.var 6 (by decide)
  clear hE
  have : i = 0 ∨ i = 1 ∨ i = 2 ∨ i = 3 ∨ i = 4 ∨ i = 5 ∨ i = 6 := by omega
  rcases this with rfl | rfl | rfl | rfl | rfl | rfl | rfl <;> (go_enter Tryd.func9, Tryd.ntmps9; go_wp2; go_ret; exact ⟨rfl, rfl⟩)
set_option maxRecDepth 100000 in
set_option maxHeartbeats 1000000 in
theorem kind_no (w : World) (n : Int) (h : ¬ (1 ≤ n ∧ n ≤ 7)) : Calls Tryd.prog 9 #[.int .i64 n] w fun e w' => e = .returned .nilIface ∧ w = w' := by
  have n1 : (n == 1) = false := beq_eq_false_iff_ne.2 (by omega)
  have n2 : (n == 2) = false := beq_eq_false_iff_ne.2 (by omega)
  have n3 : (n == 3) = false := beq_eq_false_iff_ne.2 (by omega)
  have n4 : (n == 4) = false := beq_eq_false_iff_ne.2 (by omega)
  have n5 : (n == 5) = false := beq_eq_false_iff_ne.2 (by omega)
  have n6 : (n == 6) = false := beq_eq_false_iff_ne.2 (by omega)
  have n7 : (n == 7) = false := beq_eq_false_iff_ne.2 (by omega)
  clear h
  go_enter Tryd.func9, Tryd.ntmps9
  go_wp2
  go_ret
  exact ⟨rfl, rfl⟩
theorem number_nil (w : World) : Calls Tryd.prog 17 #[.nilIface] w fun e w' => e = .returned (.int .i64 0) ∧ w = w' := by
  go_enter Tryd.func17, Tryd.ntmps17
  go_wp2
  go_ret
  exact ⟨rfl, rfl⟩
theorem reason_nil (w : World) : Calls Tryd.prog 15 #[.nilIface] w fun e w' => e = .returned (.int .i64 0) ∧ w = w' := by
  go_enter Tryd.func15, Tryd.ntmps15
  go_wp2
  go_ret
  exact ⟨rfl, rfl⟩
end Go.Proofs.YthpplbigmolnjaaDoor.FltW
