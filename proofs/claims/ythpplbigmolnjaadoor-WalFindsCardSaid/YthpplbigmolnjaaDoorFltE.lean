/- Faults: told of a whole. -/
import Derived.Test.YthpplbigmolnjaaDoorFltD
set_option linter.unusedVariables false
set_option linter.unusedSimpArgs false
namespace Go.Proofs.YthpplbigmolnjaaDoor.FltW
open Go.RowKit Go.Proofs.YthpplbigmolnjaaDoor.Tc

theorem deeper_any (b : Nat) (r a by_ : Int) (e' : Value) (w : World) (hg : AsVar w) (hb : w.heap[b]? = some (.cells #[.int .i64 r, .int .i64 a, e'] 58 (0, 0))) :
    Calls Tryd.prog 12 #[.iface 56 (.pointer (some ⟨b, 0, none⟩)), .int .i64 by_] w fun e w' => (∃ n, e = .returned (.iface 56 (.pointer (some ⟨n, 0, none⟩))) ∧ w.heap.size ≤ n ∧ w'.heap[n]? = some (.cells #[.int .i64 r, .int .i64 (far a by_), .iface 56 (.pointer (some ⟨b, 0, none⟩))] 58 (0, 0))) ∧ Below w.heap.size w w' := by
  generalize hP : (fun (e : Ending) (w' : World) => (∃ n, e = .returned (.iface 56 (.pointer (some ⟨n, 0, none⟩))) ∧ w.heap.size ≤ n ∧ w'.heap[n]? = some (.cells #[.int .i64 r, .int .i64 (far a by_), .iface 56 (.pointer (some ⟨b, 0, none⟩))] 58 (0, 0))) ∧ Below w.heap.size w w') = PP
  have HPP := Lib.hid (show ∀ (n : Nat) (w' : World), w.heap.size ≤ n → w'.heap[n]? = some (.cells #[.int .i64 r, .int .i64 (far a by_), .iface 56 (.pointer (some ⟨b, 0, none⟩))] 58 (0, 0)) → Below w.heap.size w w' → PP (.returned (.iface 56 (.pointer (some ⟨n, 0, none⟩)))) w' by
    intro n w' h1 h2 h3
    rw [← hP]
    exact ⟨⟨n, rfl, h1, h2⟩, h3⟩)
  clear hP
  have HR := Lib.hid (reason_any b r a e' w hg hb)
  have HG := Lib.hid hg
  have HB := Lib.hid hb
  clear hg hb
  go_enter Tryd.func12, Tryd.ntmps12
  go_wp2_with fail
  refine HR.out.mono ?_
  rintro e w1 ⟨rfl, hb1⟩
  have HA := Lib.hid (at_any b r a e' w1 (HG.out.below hb1) ((hb1.block b (lt_of_block HB.out)).trans HB.out))
  have HB1 := Lib.hid hb1
  clear hb1
  go_wp2_with fail
  refine HA.out.mono ?_
  rintro e w2 ⟨rfl, hb2⟩
  have HB2 := Lib.hid (HB1.out.trans (hb2.mono HB1.out.size))
  have HF := Lib.hid (further_any a by_ w2)
  clear hb2
  go_wp2_with fail
  refine HF.out.mono ?_
  rintro e w3 ⟨rfl, rfl⟩
  have hb3 := alloc_below w2 (.cells #[.int .i64 r, .int .i64 (far a by_), .iface 56 (.pointer (some ⟨b, 0, none⟩))] 58)
  have HE := Lib.hid (HPP.out w2.heap.size _ HB2.out.size (heap_alloc_new w2 (.cells #[.int .i64 r, .int .i64 (far a by_), .iface 56 (.pointer (some ⟨b, 0, none⟩))] 58)) (HB2.out.trans (hb3.mono HB2.out.size)))
  clear hb3
  go_wp2_with fail
  exact HE.out
end Go.Proofs.YthpplbigmolnjaaDoor.FltW
