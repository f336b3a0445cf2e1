/- Faults: errors.Is of a sentinel by its contracts. -/
import Derived.Test.YthpplbigmolnjaaDoorProg
import Derived.Test.YthpplbigmolnjaaDoorFrame
import Derived.WalkKit
import Derived.KernelRfl
import Derived.LaidEql
import Derived.Stop.Asserts
import Derived.RowKitTokens
import Derived.Lib.Hide
import Derived.Handy
import Derived.Deep.LoopGhost
set_option linter.unusedVariables false
set_option linter.unusedSimpArgs false
namespace Go.Proofs.YthpplbigmolnjaaDoor.FltW
open Go.RowKit Go.Extern.Stop Go.Stop Go.Extern Go.Proofs.YthpplbigmolnjaaDoor.Tc

theorem isTypeOf (v : Value) (w : World) : (Extern.ReflectliteType.typeOf #[.iface 96 v]).run Tryd.prog w = .ok (.iface 100 (.agg #[.pointer (some ⟨11, 96, none⟩)])) w := by kernel_rfl
theorem isComparable (w : World) : ((Extern.ReflectliteType.method fun t => do Extern.Rtype.noPackHeld "Comparable" t; (fun a => Value.bool a.comparable) <$> typeInfo t) #[.agg #[.pointer (some ⟨11, 96, none⟩)]]).run Tryd.prog w = .ok (.bool true) w := by kernel_rfl
theorem isMethodComparable (v : Value) (w : World) : (Go.method 68 100 v "Comparable").run Tryd.prog w = .ok (123, v) w := by kernel_rfl
theorem isComp : (Tryd.prog.info? 96).map (·.comparable) = some true := by kernel_rfl
theorem isSize : (Tryd.prog.info? 98).map (·.size) = some 1 := by kernel_rfl
theorem noIsE (v : Value) (xT : TypeId) (w : World) : (Instr.typeAssert (.iface 96 v) xT 102 true).run Tryd.prog w = .ok (.tuple #[.nilIface, .bool false]) w := run_typeAssert_lacksB Tryd.underlying102 (by kernel_rfl) (by kernel_rfl) v xT w
theorem noUnwrapE (v : Value) (xT : TypeId) (w : World) : (Instr.typeAssert (.iface 96 v) xT 104 true).run Tryd.prog w = .ok (.tuple #[.nilIface, .bool false]) w := run_typeAssert_lacksB Tryd.underlying104 (by kernel_rfl) (by kernel_rfl) v xT w
theorem noUnwrapsE (v : Value) (xT : TypeId) (w : World) : (Instr.typeAssert (.iface 96 v) xT 105 true).run Tryd.prog w = .ok (.tuple #[.nilIface, .bool false]) w := run_typeAssert_lacksB Tryd.underlying105 (by kernel_rfl) (by kernel_rfl) v xT w
theorem noIsF (v : Value) (xT : TypeId) (w : World) : (Instr.typeAssert (.iface 56 v) xT 102 true).run Tryd.prog w = .ok (.tuple #[.nilIface, .bool false]) w := run_typeAssert_lacksB Tryd.underlying102 (by kernel_rfl) (by kernel_rfl) v xT w
theorem hasUnwrapF (v : Value) (xT : TypeId) (w : World) : (Instr.typeAssert (.iface 56 v) xT 104 true).run Tryd.prog w = .ok (.tuple #[.iface 56 v, .bool true]) w := run_typeAssert_hasB Tryd.underlying104 (by kernel_rfl) v xT w
theorem methodUnwrap (v : Value) (w : World) : (Go.method 68 56 v "Unwrap").run Tryd.prog w = .ok (35, v) w := by kernel_rfl
/-- errors.Is(x, x), x a sentinel. -/
theorem is_same (a : Addr) (w : World) :
    Calls Tryd.prog 14 #[.iface 96 (.pointer (some a)), .iface 96 (.pointer (some a))] w fun e w' => e = .returned (.bool true) ∧ w = w' := by
  obtain ⟨i, hi, hcmp⟩ := Option.map_eq_some_iff.1 isComp
  obtain ⟨j, hj, hjs⟩ := Option.map_eq_some_iff.1 isSize
  have h8 := @run_callFunc_extern Tryd.prog 41 _ Extern.ReflectliteType.typeOf Tryd.func41 (by kernel_rfl) (by kernel_rfl) (by kernel_rfl) (by kernel_rfl)
  have h32 := @run_callFunc_extern Tryd.prog 123 _ (Extern.ReflectliteType.method fun t => do Extern.Rtype.noPackHeld "Comparable" t; pure (.bool (← typeInfo t).comparable)) Tryd.func123 (by kernel_rfl) (by kernel_rfl) (by kernel_rfl) (by kernel_rfl)
  have tT := isTypeOf
  have cT := isComparable
  have mR := isMethodComparable
  have heq := run_eql_iface_ptr_same (P := Tryd.prog) w a Tryd.underlying24 Tryd.underlying96 hi hcmp hj
  go_enter Tryd.func14, Tryd.ntmps14
  go_wp2
  refine wp_loop_rounds 1 ?_
  rw [rounds_succ]
  go_wp2
  go_ret
  exact ⟨rfl, rfl⟩
/-- A chain of faults down to an error: of each its block, its reason, its place. -/
def Ch (w : World) (k : Value) : List (Nat × Int × Int) → Value → Prop
  | [], e => e = k
  | (b, r, a) :: t, e => e = .iface 56 (.pointer (some ⟨b, 0, none⟩)) ∧ ∃ e', w.heap[b]? = some (.cells #[.int .i64 r, .int .i64 a, e'] 58 (0, 0)) ∧ Ch w k t e'
theorem Ch.iface {w : World} {k : Value} {t : List (Nat × Int × Int)} {e : Value} (h : Ch w k t e) (hk : ∃ T v, k = .iface T v) : ∃ T v, e = .iface T v := by
  cases t with
  | nil => obtain rfl : e = k := h; exact hk
  | cons x t => obtain ⟨b, r, a⟩ := x; exact ⟨_, _, h.1⟩
theorem Ch.below {w w' : World} {k : Value} (hb : Below w.heap.size w w') : ∀ {t : List (Nat × Int × Int)} {e : Value}, Ch w k t e → Ch w' k t e
  | [], _, h => h
  | (_, _, _) :: _, _, ⟨h1, e', h2, h3⟩ => ⟨h1, e', (hb.block _ (lt_of_block h2)).trans h2, Ch.below hb h3⟩
set_option maxRecDepth 100000 in
set_option maxHeartbeats 2000000 in
theorem is_chain (l : List (Nat × Int × Int)) (e : Value) (b : Addr) (w : World) (h : Ch w (.iface 96 (.pointer (some b))) l e) :
    Calls Tryd.prog 14 #[e, .iface 96 (.pointer (some b))] w fun ev w' => ev = .returned (.bool true) ∧ w = w' := by
  obtain ⟨i, hi, hcmp⟩ := Option.map_eq_some_iff.1 isComp
  obtain ⟨j, hj, hjs⟩ := Option.map_eq_some_iff.1 isSize
  have h8 := @run_callFunc_extern Tryd.prog 41 _ Extern.ReflectliteType.typeOf Tryd.func41 (by kernel_rfl) (by kernel_rfl) (by kernel_rfl) (by kernel_rfl)
  have h32 := @run_callFunc_extern Tryd.prog 123 _ (Extern.ReflectliteType.method fun t => do Extern.Rtype.noPackHeld "Comparable" t; pure (.bool (← typeInfo t).comparable)) Tryd.func123 (by kernel_rfl) (by kernel_rfl) (by kernel_rfl) (by kernel_rfl)
  have tT := isTypeOf
  have cT := isComparable
  have mR := isMethodComparable
  have nE := noIsE
  have uE := noUnwrapE
  have vE := noUnwrapsE
  have nF := noIsF
  have uF := hasUnwrapF
  have mU := methodUnwrap
  have heq := run_eql_iface_ptr_same (P := Tryd.prog) w b Tryd.underlying24 Tryd.underlying96 hi hcmp hj
  have HC := Lib.hid h
  obtain ⟨T, v, rfl⟩ := h.iface ⟨_, _, rfl⟩
  clear h
  go_enter Tryd.func14, Tryd.ntmps14
  go_wp2
  go_loopg [0] l.length (fun g x wr => ∃ rest, rest.length = g ∧ wr = w ∧ Ch w (.iface 96 (.pointer (some b))) rest x)
  case atStart => exact ⟨l, rfl, rfl, HC.out⟩
  case round =>
    obtain ⟨rest, hg, rfl, hc⟩ := hrel
    cases rest with
    | nil =>
      have hc' := hc
      unfold Ch at hc'
      subst hc'
      clear hc
      go_wp2
      go_ret
      exact ⟨rfl, rfl⟩
    | cons y t =>
      obtain ⟨pb, r, a9⟩ := y
      obtain ⟨hx, e', hblk, hch⟩ := hc
      subst hx
      obtain ⟨T', v', rfl⟩ := hch.iface ⟨_, _, rfl⟩
      have c2 : wr.cell? ⟨pb, 2, none⟩ = some (.iface T' v') := cell_of hblk rfl
      have hty := run_eql_iface_types (P := Tryd.prog) 56 96 (.pointer (some ⟨pb, 0, none⟩)) (.pointer (some b)) Tryd.underlying24 (by decide) wr
      have HCH := Lib.hid hch
      clear hblk hch
      go_wp2
      go_roundg t.length
      case measure => simp at hg; omega
      case rel => exact ⟨t, rfl, rfl, HCH.out⟩
set_option maxRecDepth 100000 in
set_option maxHeartbeats 2000000 in
theorem is_chain_other (l : List (Nat × Int × Int)) (e : Value) (b : Addr) (w : World) (a : Addr) (ca cb : Array Value) (ta tb : TypeId) (hne : a ≠ b) (ha : w.heap[a.block]? = some (.cells ca ta (0, 0))) (hb : w.heap[b.block]? = some (.cells cb tb (0, 0))) (h : Ch w (.iface 96 (.pointer (some a))) l e) :
    Calls Tryd.prog 14 #[e, .iface 96 (.pointer (some b))] w fun ev w' => ev = .returned (.bool false) ∧ w = w' := by
  obtain ⟨i, hi, hcmp⟩ := Option.map_eq_some_iff.1 isComp
  obtain ⟨j, hj, hjs⟩ := Option.map_eq_some_iff.1 isSize
  have h8 := @run_callFunc_extern Tryd.prog 41 _ Extern.ReflectliteType.typeOf Tryd.func41 (by kernel_rfl) (by kernel_rfl) (by kernel_rfl) (by kernel_rfl)
  have h32 := @run_callFunc_extern Tryd.prog 123 _ (Extern.ReflectliteType.method fun t => do Extern.Rtype.noPackHeld "Comparable" t; pure (.bool (← typeInfo t).comparable)) Tryd.func123 (by kernel_rfl) (by kernel_rfl) (by kernel_rfl) (by kernel_rfl)
  have tT := isTypeOf
  have cT := isComparable
  have mR := isMethodComparable
  have nE := noIsE
  have uE := noUnwrapE
  have vE := noUnwrapsE
  have nF := noIsF
  have uF := hasUnwrapF
  have mU := methodUnwrap
  have heq := run_eql_iface_ptr_other (P := Tryd.prog) w Tryd.underlying24 Tryd.underlying96 hi hcmp hj (by rw [hjs]; decide) hne ha hb
  have HC := Lib.hid h
  obtain ⟨T, v, rfl⟩ := h.iface ⟨_, _, rfl⟩
  clear h
  go_enter Tryd.func14, Tryd.ntmps14
  go_wp2
  go_loopg [0] l.length (fun g x wr => ∃ rest, rest.length = g ∧ wr = w ∧ Ch w (.iface 96 (.pointer (some a))) rest x)
  case atStart => exact ⟨l, rfl, rfl, HC.out⟩
  case round =>
    obtain ⟨rest, hg, rfl, hc⟩ := hrel
    cases rest with
    | nil =>
      have hc' := hc
      unfold Ch at hc'
      subst hc'
      clear hc
      go_wp2
      go_ret
      exact ⟨rfl, rfl⟩
    | cons y t =>
      obtain ⟨pb, r, a9⟩ := y
      obtain ⟨hx, e', hblk, hch⟩ := hc
      subst hx
      obtain ⟨T', v', rfl⟩ := hch.iface ⟨_, _, rfl⟩
      have c2 : wr.cell? ⟨pb, 2, none⟩ = some (.iface T' v') := cell_of hblk rfl
      have hty := run_eql_iface_types (P := Tryd.prog) 56 96 (.pointer (some ⟨pb, 0, none⟩)) (.pointer (some b)) Tryd.underlying24 (by decide) wr
      have HCH := Lib.hid hch
      clear hblk hch
      go_wp2
      go_roundg t.length
      case measure => simp at hg; omega
      case rel => exact ⟨t, rfl, rfl, HCH.out⟩
end Go.Proofs.YthpplbigmolnjaaDoor.FltW
