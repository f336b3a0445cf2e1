/- Faults: what must come. -/
import Derived.Test.YthpplbigmolnjaaDoorFltG
set_option linter.unusedVariables false
set_option linter.unusedSimpArgs false
namespace Go.Proofs.YthpplbigmolnjaaDoor.FltW
open Go.RowKit Go.Proofs.YthpplbigmolnjaaDoor.Tc

set_option maxRecDepth 100000 in
set_option maxHeartbeats 1000000 in
theorem awake_any (w : World) (a : Nat → Addr) (hE : EnvF w a) : Calls Tryd.prog 10 #[] w fun e w' => e = .returned (.bool true) ∧ Below w.heap.size w w' := by
  have v1 := hE.var 1 (by decide)
  have HN := Lib.hid (new_any 129 3 96 (.pointer (some (a 1))) w)
  have HE := Lib.hid hE
  clear hE
  go_enter Tryd.func10, Tryd.ntmps10
  go_wp2_with fail
  refine HN.out.mono ?_
  rintro e w1 ⟨rfl, hz, hb⟩
  have HD := Lib.hid (deeper_any w.heap.size 129 3 10 _ w1 (HE.out.below hb).as_ hz)
  have HZ := Lib.hid hz
  have HB := Lib.hid hb
  clear hz hb HN v1
  go_wp2_with fail
  refine HD.out.mono ?_
  rintro e w2 ⟨⟨n, rfl, hn, hz2⟩, hb2⟩
  rw [show far 3 10 = 13 by decide] at hz2
  have hch : Ch w2 (.iface 96 (.pointer (some (a 1)))) [(n, 129, 13), (w.heap.size, 129, 3)] (.iface 56 (.pointer (some ⟨n, 0, none⟩))) := ⟨rfl, _, hz2, rfl, _, (hb2.block _ (lt_of_block HZ.out)).trans HZ.out, rfl⟩
  have hB2 := HB.out.trans (hb2.mono HB.out.size)
  have HB2 := Lib.hid hB2
  have HE2 := Lib.hid (HE.out.below hB2)
  have HR := Lib.hid (reason_any n 129 13 _ w2 (HE.out.below hB2).as_ hz2)
  have HZ2 := Lib.hid hz2
  have HCH := Lib.hid hch
  clear hn hz2 hb2 hch hB2 HD
  go_wp2_with fail
  refine HR.out.mono ?_
  rintro e w3 ⟨rfl, hb3⟩
  have HA := Lib.hid (at_any n 129 13 _ w3 (HE2.out.below hb3).as_ ((hb3.block _ (lt_of_block HZ2.out)).trans HZ2.out))
  have HB3 := Lib.hid hb3
  clear hb3 HR
  go_wp2_with fail
  refine HA.out.mono ?_
  rintro e w4 ⟨rfl, hb4⟩
  have hB4 := HB3.out.trans (hb4.mono HB3.out.size)
  have HNU := Lib.hid (number_any w4 a (HE2.out.below hB4) 1 (by decide) _ _ (Ch.below hB4 HCH.out))
  have HB4 := Lib.hid (HB2.out.trans (hB4.mono HB2.out.size))
  clear hb4 hB4 HA
  go_wp2_with fail
  refine HNU.out.mono ?_
  rintro e w5 ⟨rfl, hb5⟩
  have HB5 := Lib.hid (HB4.out.trans (hb5.mono HB4.out.size))
  clear hb5 HNU
  go_wp2_with fail
  refine (number_nil _).mono ?_
  rintro e w6 ⟨rfl, rfl⟩
  go_wp2_with fail
  refine (reason_nil _).mono ?_
  rintro e w6 ⟨rfl, rfl⟩
  go_wp2_with fail
  go_ret
  exact ⟨rfl, HB5.out⟩
end Go.Proofs.YthpplbigmolnjaaDoor.FltW
