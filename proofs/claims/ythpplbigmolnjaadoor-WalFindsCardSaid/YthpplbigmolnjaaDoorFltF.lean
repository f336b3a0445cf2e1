/- Faults: the number of a kind. -/
import Derived.Test.YthpplbigmolnjaaDoorFltE
set_option linter.unusedVariables false
set_option linter.unusedSimpArgs false
namespace Go.Proofs.YthpplbigmolnjaaDoor.FltW
open Go.RowKit Go.Proofs.YthpplbigmolnjaaDoor.Tc

/-- What the package variables hold: seven errors, each another one. -/
structure EnvF (w : World) (a : Nat → Addr) : Prop where
  var : ∀ i, i < 7 → w.cell? ⟨i, 0, none⟩ = some (.iface 96 (.pointer (some (a i))))
  row : ∀ i, i < 7 → ∃ c t, w.heap[(a i).block]? = some (.cells c t (0, 0))
  inj : ∀ i j, i < 7 → j < 7 → i ≠ j → a i ≠ a j
  as_ : AsVar w
theorem EnvF.below {w w' : World} {a : Nat → Addr} (h : EnvF w a) (hb : Below w.heap.size w w') : EnvF w' a :=
  ⟨fun i hi => (World.cell?_of_block (hb.block i (World.block_lt_of_cell? w _ (h.var i hi)))).trans (h.var i hi), fun i hi => by
    obtain ⟨c, t, hc⟩ := h.row i hi
    exact ⟨c, t, (hb.block _ (lt_of_block hc)).trans hc⟩, h.inj, h.as_.below hb⟩
set_option maxRecDepth 100000 in
set_option maxHeartbeats 2000000 in
theorem number_any (w : World) (a : Nat → Addr) (hE : EnvF w a) (i : Nat) (hi : i < 7) (l : List (Nat × Int × Int)) (e : Value) (h : Ch w (.iface 96 (.pointer (some (a i)))) l e) :
    Calls Tryd.prog 17 #[e] w fun ev w' => ev = .returned (.int .i64 ((i : Int) + 1)) ∧ Below w.heap.size w w' := by
  obtain ⟨T, v, rfl⟩ := h.iface ⟨_, _, rfl⟩
  have v0 := hE.var 0 (by decide)
  have v1 := hE.var 1 (by decide)
  have v2 := hE.var 2 (by decide)
  have v3 := hE.var 3 (by decide)
  have v4 := hE.var 4 (by decide)
  have v5 := hE.var 5 (by decide)
  have v6 := hE.var 6 (by decide)
  have hb := alloc_below w (.cells #[.iface 96 (.pointer (some (a 0))), .iface 96 (.pointer (some (a 1))), .iface 96 (.pointer (some (a 2))), .iface 96 (.pointer (some (a 3))), .iface 96 (.pointer (some (a 4))), .iface 96 (.pointer (some (a 5))), .iface 96 (.pointer (some (a 6)))] 24)
  have hz := heap_alloc_new w (.cells #[.iface 96 (.pointer (some (a 0))), .iface 96 (.pointer (some (a 1))), .iface 96 (.pointer (some (a 2))), .iface 96 (.pointer (some (a 3))), .iface 96 (.pointer (some (a 4))), .iface 96 (.pointer (some (a 5))), .iface 96 (.pointer (some (a 6)))] 24)
  have HZ := Lib.hid hz
  have HB := Lib.hid hb
  have HE := Lib.hid (hE.below hb)
  have HC := Lib.hid (Ch.below hb h)
  have HK := Lib.hid (show ∀ k, k < 7 → (#[.iface 96 (.pointer (some (a 0))), .iface 96 (.pointer (some (a 1))), .iface 96 (.pointer (some (a 2))), .iface 96 (.pointer (some (a 3))), .iface 96 (.pointer (some (a 4))), .iface 96 (.pointer (some (a 5))), .iface 96 (.pointer (some (a 6)))] : Array Value)[k]? = some (.iface 96 (.pointer (some (a k)))) by
    intro k hk
    have : k = 0 ∨ k = 1 ∨ k = 2 ∨ k = 3 ∨ k = 4 ∨ k = 5 ∨ k = 6 := by omega
    rcases this with rfl | rfl | rfl | rfl | rfl | rfl | rfl <;> rfl)
  clear hE h hb hz
  go_enter Tryd.func17, Tryd.ntmps17
  go_wp2
  go_loopw [16] (fun x wr => ∃ k : Nat, k ≤ i ∧ x = .int .i64 k ∧ wr = w.alloc (.cells #[.iface 96 (.pointer (some (a 0))), .iface 96 (.pointer (some (a 1))), .iface 96 (.pointer (some (a 2))), .iface 96 (.pointer (some (a 3))), .iface 96 (.pointer (some (a 4))), .iface 96 (.pointer (some (a 5))), .iface 96 (.pointer (some (a 6)))] 24)) (fun x _ => 7 - (intOf x).toNat)
  case atStart => exact ⟨0, by omega, rfl, rfl⟩
  case round =>
    obtain ⟨k, hk, rfl, hwr⟩ := hrel
    have ck : wr.cell? ⟨w.heap.size, k, none⟩ = some (.iface 96 (.pointer (some (a k)))) := by
      rw [hwr]
      exact cell_of HZ.out (HK.out k (by omega))
    have hk7 : (k : Int) < 7 := by omega
    have HWR := Lib.hid hwr
    by_cases hki : k = i
    · subst hki
      have HI := Lib.hid (show Calls Tryd.prog 14 #[.iface T v, .iface 96 (.pointer (some (a k)))] wr fun ev w' => ev = .returned (.bool true) ∧ wr = w' from is_chain l (.iface T v) (a k) wr (by rw [hwr]; exact HC.out))
      clear hwr
      go_wp2_with fail
      refine HI.out.mono ?_
      rintro ev w2 ⟨rfl, rfl⟩
      have HBE := Lib.hid (show Below w.heap.size w wr by rw [HWR.out]; exact HB.out)
      go_wp2_with fail
      go_ret
      exact ⟨rfl, HBE.out⟩
    · have HI := Lib.hid (show Calls Tryd.prog 14 #[.iface T v, .iface 96 (.pointer (some (a k)))] wr fun ev w' => ev = .returned (.bool false) ∧ wr = w' by
        have hEr : EnvF wr a := by rw [hwr]; exact HE.out
        obtain ⟨c1, t1, h1⟩ := hEr.row i hi
        obtain ⟨c2, t2, h2⟩ := hEr.row k (by omega)
        exact is_chain_other l (.iface T v) (a k) wr (a i) c1 c2 t1 t2 (hEr.inj i k hi (by omega) (fun e => hki e.symm)) h1 h2 (by rw [hwr]; exact HC.out))
      clear hwr
      go_wp2_with fail
      refine HI.out.mono ?_
      rintro ev w2 ⟨rfl, rfl⟩
      go_wp2_with fail
      go_roundw
      case rel => exact ⟨k + 1, by omega, by go_num, HWR.out⟩
      case measure => simp [intOf]; omega
end Go.Proofs.YthpplbigmolnjaaDoor.FltW
