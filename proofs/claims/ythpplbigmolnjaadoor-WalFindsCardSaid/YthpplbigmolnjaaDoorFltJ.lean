/- Faults: errors.As at an error that no one here made. -/
import Derived.Test.YthpplbigmolnjaaDoorFltH
set_option linter.unusedVariables false
set_option linter.unusedSimpArgs false
namespace Go.Proofs.YthpplbigmolnjaaDoor.FltW
open Go.RowKit Go.Extern.Stop Go.Stop Go.Extern Go.Proofs.YthpplbigmolnjaaDoor.Tc

theorem noAsE (v : Value) (xT : TypeId) (w : World) : (Instr.typeAssert (.iface 96 v) xT 119 true).run Tryd.prog w = .ok (.tuple #[.nilIface, .bool false]) w := run_typeAssert_lacksB Tryd.underlying119 (by kernel_rfl) (by kernel_rfl) v xT w
theorem noAssignable (w : World) : (ReflectliteType.relation "AssignableTo" ReflectliteType.assignableTo #[.agg #[.pointer (some ⟨11, 96, none⟩)], .iface 100 (.agg #[.pointer (some ⟨11, 56, none⟩)])]).run Tryd.prog w = .ok (.bool false) w := by kernel_rfl
set_option maxHeartbeats 4000000 in
theorem as_miss (e t : Addr) (old : Value) (w : World) (hg : AsVar w) (ht0 : w.cell? t = some old) :
    Calls Tryd.prog 34 #[.iface 96 (.pointer (some e)), .iface 60 (.pointer (some t))] w fun ev w' => ev = .returned (.bool false) ∧ Below w.heap.size w w' := by
  have h6 := @run_callFunc_extern Tryd.prog 59 _ (fun args => ReflectliteValue.unpack (args.getD 0 (.tuple #[]))) Tryd.func59 (by kernel_rfl) (by kernel_rfl) (by kernel_rfl) (by kernel_rfl)
  have h7 := @run_callFunc_extern Tryd.prog 60 _ (ReflectliteValue.methodAny (ReflectliteValue.valueError "reflectlite.Value.Type" 0) (fun t _ _ _ => ReflectliteType.toType t)) Tryd.func60 (by kernel_rfl) (by kernel_rfl) (by kernel_rfl) (by kernel_rfl)
  have h8 := @run_callFunc_extern Tryd.prog 61 _ (ReflectliteValue.method (ReflectliteValue.valueError "reflectlite.Value.IsNil" 0) ReflectliteValue.isNil) Tryd.func61 (by kernel_rfl) (by kernel_rfl) (by kernel_rfl) (by kernel_rfl)
  have h27 := @run_callFunc_extern Tryd.prog 113 _ (ReflectliteType.abiMethod fun t => do pure (.int .u8 (← Rtype.kind t))) Tryd.func113 (by kernel_rfl) (by kernel_rfl) (by kernel_rfl) (by kernel_rfl)
  have h37 := @run_callFunc_extern Tryd.prog 124 _ (ReflectliteType.method ReflectliteType.elem) Tryd.func124 (by kernel_rfl) (by kernel_rfl) (by kernel_rfl) (by kernel_rfl)
  have h38 := @run_callFunc_extern Tryd.prog 125 _ (ReflectliteType.relation "Implements" ReflectliteType.implements_) Tryd.func125 (by kernel_rfl) (by kernel_rfl) (by kernel_rfl) (by kernel_rfl)
  have h10 := @run_callFunc_extern Tryd.prog 41 _ ReflectliteType.typeOf Tryd.func41 (by kernel_rfl) (by kernel_rfl) (by kernel_rfl) (by kernel_rfl)
  have h35 := @run_callFunc_extern Tryd.prog 122 _ (ReflectliteType.relation "AssignableTo" ReflectliteType.assignableTo) Tryd.func122 (by kernel_rfl) (by kernel_rfl) (by kernel_rfl) (by kernel_rfl)
  have tO := isTypeOf
  have mA := ta_methodAssignableTo
  have a25 := noAssignable
  have nA := noAsE
  have uE := noUnwrapE
  have vE := noUnwrapsE
  have f6 := ta_valueOf27
  have f7 := ta_type27
  have mK := ta_methodKind
  have mE := ta_methodElem
  have mI := ta_methodImplements
  have k27 := ta_kind27
  have k25 := ta_kind25
  have e27 := ta_elem27
  have i25 := ta_implements25
  have n8 := ta_isNil27 ⟨w.heap.size, 0, none⟩ t ((w.alloc (.cells #[.pointer (some t)] 60)).alloc (.cells #[.pointer (some ⟨11, 60, none⟩), .pointer (some ⟨w.heap.size, 0, none⟩), .int .u64 150] 89)) (by simp)
  have hlt : 7 < w.heap.size := World.block_lt_of_cell? w ⟨7, 0, none⟩ hg
  have hg2 : ((w.alloc (.cells #[.pointer (some t)] 60)).alloc (.cells #[.pointer (some ⟨11, 60, none⟩), .pointer (some ⟨w.heap.size, 0, none⟩), .int .u64 150] 89)).cell? ⟨7, 0, none⟩ = some (.iface 100 (.agg #[.pointer (some ⟨11, 24, none⟩)])) := by
    rw [World.cell?_alloc_lt _ _ ⟨7, 0, none⟩ (by simp; omega), World.cell?_alloc_lt _ _ ⟨7, 0, none⟩ hlt]; exact hg
  have b1 := alloc_below w (.cells #[.pointer (some t)] 60)
  have b2 := b1.trans ((alloc_below (w.alloc (.cells #[.pointer (some t)] 60)) (.cells #[.pointer (some ⟨11, 60, none⟩), .pointer (some ⟨w.heap.size, 0, none⟩), .int .u64 150] 89)).mono b1.size)
  have B3 := Lib.hid (b2.trans ((alloc_below _ (.cells #[.pointer (some ⟨11, 60, none⟩), .pointer (some ⟨w.heap.size, 0, none⟩), .int .u64 150] 89)).mono b2.size))
  clear b1 b2
  go_enter Tryd.func34, Tryd.ntmps34
  go_wp2
  refine wp_loop_rounds 1 ?_
  rw [rounds_succ]
  go_wp2
  go_ret
  exact ⟨rfl, B3.out⟩
theorem reason_other (p : Addr) (w : World) (hg : AsVar w) :
    Calls Tryd.prog 15 #[.iface 96 (.pointer (some p))] w fun e w' => e = .returned (.int .i64 128) ∧ Below w.heap.size w w' := by
  have h0 := alloc_below w (.cells #[.pointer none] 56)
  have HA := Lib.hid (as_miss p ⟨w.heap.size, 0, none⟩ _ _ (hg.below h0) (cell_of (heap_alloc_new w (.cells #[.pointer none] 56)) rfl))
  have H0 := Lib.hid h0
  clear h0 hg
  go_enter Tryd.func15, Tryd.ntmps15
  go_wp2_with fail
  refine HA.out.mono ?_
  rintro e w2 ⟨rfl, hb2⟩
  have HE := Lib.hid (H0.out.trans (hb2.mono H0.out.size))
  clear hb2
  go_wp2_with fail
  go_ret
  exact ⟨rfl, HE.out⟩
theorem at_other (p : Addr) (w : World) (hg : AsVar w) :
    Calls Tryd.prog 16 #[.iface 96 (.pointer (some p))] w fun e w' => e = .returned (.int .i64 0) ∧ Below w.heap.size w w' := by
  have h0 := alloc_below w (.cells #[.pointer none] 56)
  have HA := Lib.hid (as_miss p ⟨w.heap.size, 0, none⟩ _ _ (hg.below h0) (cell_of (heap_alloc_new w (.cells #[.pointer none] 56)) rfl))
  have H0 := Lib.hid h0
  clear h0 hg
  go_enter Tryd.func16, Tryd.ntmps16
  go_wp2_with fail
  refine HA.out.mono ?_
  rintro e w2 ⟨rfl, hb2⟩
  have HE := Lib.hid (H0.out.trans (hb2.mono H0.out.size))
  clear hb2
  go_wp2_with fail
  go_ret
  exact ⟨rfl, HE.out⟩
theorem deeper_other (p : Addr) (by_ : Int) (w : World) (hg : AsVar w) :
    Calls Tryd.prog 12 #[.iface 96 (.pointer (some p)), .int .i64 by_] w fun e w' => (∃ n, e = .returned (.iface 56 (.pointer (some ⟨n, 0, none⟩))) ∧ w.heap.size ≤ n ∧ w'.heap[n]? = some (.cells #[.int .i64 128, .int .i64 (far 0 by_), .iface 96 (.pointer (some p))] 58 (0, 0))) ∧ Below w.heap.size w w' := by
  generalize hP : (fun (e : Ending) (w' : World) => (∃ n, e = .returned (.iface 56 (.pointer (some ⟨n, 0, none⟩))) ∧ w.heap.size ≤ n ∧ w'.heap[n]? = some (.cells #[.int .i64 128, .int .i64 (far 0 by_), .iface 96 (.pointer (some p))] 58 (0, 0))) ∧ Below w.heap.size w w') = PP
  have HPP := Lib.hid (show ∀ (n : Nat) (w' : World), w.heap.size ≤ n → w'.heap[n]? = some (.cells #[.int .i64 128, .int .i64 (far 0 by_), .iface 96 (.pointer (some p))] 58 (0, 0)) → Below w.heap.size w w' → PP (.returned (.iface 56 (.pointer (some ⟨n, 0, none⟩)))) w' by
    intro n w' h1 h2 h3
    rw [← hP]
    exact ⟨⟨n, rfl, h1, h2⟩, h3⟩)
  clear hP
  have HR := Lib.hid (reason_other p w hg)
  have HG := Lib.hid hg
  clear hg
  go_enter Tryd.func12, Tryd.ntmps12
  go_wp2_with fail
  refine HR.out.mono ?_
  rintro e w1 ⟨rfl, hb1⟩
  have HA := Lib.hid (at_other p w1 (HG.out.below hb1))
  have HB1 := Lib.hid hb1
  clear hb1
  go_wp2_with fail
  refine HA.out.mono ?_
  rintro e w2 ⟨rfl, hb2⟩
  have HB2 := Lib.hid (HB1.out.trans (hb2.mono HB1.out.size))
  have HF := Lib.hid (further_any 0 by_ w2)
  clear hb2
  go_wp2_with fail
  refine HF.out.mono ?_
  rintro e w3 ⟨rfl, rfl⟩
  have hb3 := alloc_below w2 (.cells #[.int .i64 128, .int .i64 (far 0 by_), .iface 96 (.pointer (some p))] 58)
  have HE := Lib.hid (HPP.out w2.heap.size _ HB2.out.size (heap_alloc_new w2 (.cells #[.int .i64 128, .int .i64 (far 0 by_), .iface 96 (.pointer (some p))] 58)) (HB2.out.trans (hb3.mono HB2.out.size)))
  clear hb3
  go_wp2_with fail
  exact HE.out
set_option maxRecDepth 100000 in
set_option maxHeartbeats 2000000 in
/-- The number of an error that is none of the seven, however wrapped. -/
theorem number_other (w : World) (a : Nat → Addr) (hE : EnvF w a) (p : Addr) (hp : ∃ c t, w.heap[p.block]? = some (.cells c t (0, 0))) (hne : ∀ i, i < 7 → p ≠ a i) (l : List (Nat × Int × Int)) (e : Value) (h : Ch w (.iface 96 (.pointer (some p))) l e) :
    Calls Tryd.prog 17 #[e] w fun ev w' => ev = .returned (.int .i64 8) ∧ Below w.heap.size w w' := by
  obtain ⟨T, v, rfl⟩ := h.iface ⟨_, _, rfl⟩
  have v0 := hE.var 0 (by decide)
  have v1 := hE.var 1 (by decide)
  have v2 := hE.var 2 (by decide)
  have v3 := hE.var 3 (by decide)
  have v4 := hE.var 4 (by decide)
  have v5 := hE.var 5 (by decide)
  have v6 := hE.var 6 (by decide)
  have hb := alloc_below w (.cells #[.iface 96 (.pointer (some (a 0))), .iface 96 (.pointer (some (a 1))), .iface 96 (.pointer (some (a 2))), .iface 96 (.pointer (some (a 3))), .iface 96 (.pointer (some (a 4))), .iface 96 (.pointer (some (a 5))), .iface 96 (.pointer (some (a 6)))] 24)
  have hz := heap_alloc_new w (.cells #[.iface 96 (.pointer (some (a 0))), .iface 96 (.pointer (some (a 1))), .iface 96 (.pointer (some (a 2))), .iface 96 (.pointer (some (a 3))), .iface 96 (.pointer (some (a 4))), .iface 96 (.pointer (some (a 5))), .iface 96 (.pointer (some (a 6)))] 24)
  have HZ := Lib.hid hz
  have HB := Lib.hid hb
  have HE := Lib.hid (hE.below hb)
  have HC := Lib.hid (Ch.below hb h)
  have HPB := Lib.hid (show ∃ c t, (w.alloc (.cells #[.iface 96 (.pointer (some (a 0))), .iface 96 (.pointer (some (a 1))), .iface 96 (.pointer (some (a 2))), .iface 96 (.pointer (some (a 3))), .iface 96 (.pointer (some (a 4))), .iface 96 (.pointer (some (a 5))), .iface 96 (.pointer (some (a 6)))] 24)).heap[p.block]? = some (.cells c t (0, 0)) by
    obtain ⟨c, t, hc⟩ := hp
    exact ⟨c, t, (hb.block _ (lt_of_block hc)).trans hc⟩)
  have HNE := Lib.hid hne
  have HK := Lib.hid (show ∀ k, k < 7 → (#[.iface 96 (.pointer (some (a 0))), .iface 96 (.pointer (some (a 1))), .iface 96 (.pointer (some (a 2))), .iface 96 (.pointer (some (a 3))), .iface 96 (.pointer (some (a 4))), .iface 96 (.pointer (some (a 5))), .iface 96 (.pointer (some (a 6)))] : Array Value)[k]? = some (.iface 96 (.pointer (some (a k)))) by
    intro k hk
    have : k = 0 ∨ k = 1 ∨ k = 2 ∨ k = 3 ∨ k = 4 ∨ k = 5 ∨ k = 6 := by omega
    rcases this with rfl | rfl | rfl | rfl | rfl | rfl | rfl <;> rfl)
  clear hE h hb hz hp hne
  go_enter Tryd.func17, Tryd.ntmps17
  go_wp2
  go_loopw [16] (fun x wr => ∃ k : Nat, k ≤ 7 ∧ x = .int .i64 k ∧ wr = w.alloc (.cells #[.iface 96 (.pointer (some (a 0))), .iface 96 (.pointer (some (a 1))), .iface 96 (.pointer (some (a 2))), .iface 96 (.pointer (some (a 3))), .iface 96 (.pointer (some (a 4))), .iface 96 (.pointer (some (a 5))), .iface 96 (.pointer (some (a 6)))] 24)) (fun x _ => 7 - (intOf x).toNat)
  case atStart => exact ⟨0, by omega, rfl, rfl⟩
  case round =>
    obtain ⟨k, hk, rfl, hwr⟩ := hrel
    have HBE := Lib.hid (show Below w.heap.size w wr by rw [hwr]; exact HB.out)
    by_cases hk7 : k < 7
    · have ck : wr.cell? ⟨w.heap.size, k, none⟩ = some (.iface 96 (.pointer (some (a k)))) := by
        rw [hwr]
        exact cell_of HZ.out (HK.out k (by omega))
      have HWR := Lib.hid hwr
      have hk7' : (k : Int) < 7 := by omega
      have HI := Lib.hid (show Calls Tryd.prog 14 #[.iface T v, .iface 96 (.pointer (some (a k)))] wr fun ev w' => ev = .returned (.bool false) ∧ wr = w' by
        have hEr : EnvF wr a := by rw [hwr]; exact HE.out
        obtain ⟨c1, t1, h1⟩ := HPB.out
        obtain ⟨c2, t2, h2⟩ := hEr.row k (by omega)
        exact is_chain_other l (.iface T v) (a k) wr p c1 c2 t1 t2 (HNE.out k (by omega)) (by rw [hwr]; exact h1) h2 (by rw [hwr]; exact HC.out))
      clear hwr
      go_wp2_with fail
      refine HI.out.mono ?_
      rintro ev w2 ⟨rfl, rfl⟩
      go_wp2_with fail
      go_roundw
      case rel => exact ⟨k + 1, by omega, by go_num, HWR.out⟩
      case measure => simp [intOf]; omega
    · have hk7' : ¬ (k : Int) < 7 := by omega
      clear hwr
      go_wp2
      go_ret
      exact ⟨rfl, HBE.out⟩
end Go.Proofs.YthpplbigmolnjaaDoor.FltW
