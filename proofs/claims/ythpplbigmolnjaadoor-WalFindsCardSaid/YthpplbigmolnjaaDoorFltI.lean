/- FaultDeeper: the walk. -/
import Derived.Test.YthpplbigmolnjaaDoorFltH
import Derived.Test.YthpplbigmolnjaaDoorKind
set_option linter.unusedVariables false
set_option linter.unusedSimpArgs false
namespace Go.Proofs.YthpplbigmolnjaaDoor.FltW
open Go.RowKit Go.Proofs.YthpplbigmolnjaaDoor.Tc

noncomputable def kI : Kd Tryd.prog 3 Int := kInt Tryd.underlying3 (by kernel_rfl)
theorem cells3 : Tryd.prog.cellsOf 3 = 1 := by kernel_rfl
theorem ints_open {H : Type} {enc : TypeId × Value → H} {w : World} {base : Nat} {sp : Nat → Bool} {held : Bool} {A : Option Addr} {len cap : Nat} {d : DataW H} {ps : List MemPlace}
    (h : DataW.Trod enc Tryd.prog w base sp held 22 (.slice A len cap) d ps) : ∃ xs : List Int, xs.length = len ∧ SliceIs kI w A xs := by
  obtain ⟨fuel, hf⟩ := h
  obtain ⟨A', c', xs, hcs, hx⟩ := slice_opens Tryd.underlying22 (by rw [cells3]; decide) kI hf
  simp [Value.cells] at hcs
  obtain ⟨rfl, rfl, rfl⟩ := hcs
  exact ⟨xs, rfl, hx⟩
theorem int_cell {w : World} {A : Option Addr} {l : List Int} (h : SliceIs kI w A l) {k : Nat} {x : Int} (hk : l[k]? = some x) : ∃ b off, A = some ⟨b, off, none⟩ ∧ w.cell? ⟨b, off + k, none⟩ = some (.int .i64 x) := by
  have hlt := (List.getElem?_eq_some_iff.1 hk).1
  obtain ⟨b, off, hA, -, hc⟩ := h.at_ (by omega)
  obtain ⟨cs, ⟨rfl, -⟩, hcell⟩ := hc k x hk
  have := hcell 0 _ rfl
  rw [cells3, Nat.mul_one, Nat.add_zero] at this
  exact ⟨b, off, hA, this⟩
set_option maxRecDepth 100000 in
set_option maxHeartbeats 4000000 in
theorem deeper_law (w : World) (n reason : Int) (A : Option Addr) (len cap : Nat) (l : List Int) (hn : (Lit.int .i64 n).wf = true) (hr : (Lit.int .i64 reason).wf = true) (hl : l.length = len ∧ SliceIs kI w A l) (hE : ∃ a, EnvF w a) :
    Calls Tryd.prog 3 #[.int .i64 n, .int .i64 reason, .slice A len cap] w fun e w' => e = .returned (.bool true) ∧ Below w.heap.size w w' := by
  obtain ⟨rfl, hS⟩ := hl
  obtain ⟨a, hE⟩ := hE
  have hlen := hS.len
  unfold maxLen at hlen
  have HA := Lib.hid (awake_any w a hE)
  have HE := Lib.hid hE
  have HS := Lib.hid hS
  clear hn hr
  by_cases h7 : 1 ≤ n ∧ n ≤ 7
  case neg =>
    have HK := Lib.hid (kind_no w n h7)
    clear hE hS h7
    go_enter Tryd.func3, Tryd.ntmps3
    go_wp2_with fail
    refine HK.out.mono ?_
    rintro e w1 ⟨rfl, rfl⟩
    go_wp2_with fail
    refine HA.out.mono ?_
    rintro e w1 ⟨rfl, hb⟩
    have HB := Lib.hid hb
    clear hb
    go_wp2_with fail
    go_ret
    exact ⟨rfl, HB.out⟩
  case pos =>
    obtain ⟨i, hi, rfl⟩ : ∃ i : Nat, i < 7 ∧ n = (i : Int) + 1 := ⟨(n - 1).toNat, by omega, by omega⟩
    have HK := Lib.hid (kind_yes w a hE i hi)
    clear hE hS h7
    by_cases h20 : 20 < l.length
    case pos =>
      have h21 : (20 : Int) < l.length := by omega
      go_enter Tryd.func3, Tryd.ntmps3
      go_wp2_with fail
      refine HK.out.mono ?_
      rintro e w1 ⟨rfl, rfl⟩
      go_wp2_with fail
      refine HA.out.mono ?_
      rintro e w1 ⟨rfl, hb⟩
      have HB := Lib.hid hb
      clear hb
      go_wp2_with fail
      go_ret
      exact ⟨rfl, HB.out⟩
    case neg =>
      have h21 : ¬ (20 : Int) < l.length := by omega
      have HN := Lib.hid (new_any reason 0 96 (.pointer (some (a i))) w)
      go_enter Tryd.func3, Tryd.ntmps3
      go_wp2_with fail
      refine HK.out.mono ?_
      rintro e w1 ⟨rfl, rfl⟩
      go_wp2_with fail
      refine HN.out.mono ?_
      rintro e w1 ⟨rfl, hz, hb⟩
      have HZ := Lib.hid hz
      have HB := Lib.hid hb
      clear hz hb
      go_wp2_with fail
      go_loopw [8, 9, 10] (fun x y z wr => ∃ (k b : Nat) (p : Int) (e' : Value) (t : List (Nat × Int × Int)), k ≤ l.length ∧ z = .int .i64 k ∧ y = .int .i64 p ∧ x = .iface 56 (.pointer (some ⟨b, 0, none⟩)) ∧ wr.heap[b]? = some (.cells #[.int .i64 reason, .int .i64 p, e'] 58 (0, 0)) ∧ Ch wr (.iface 96 (.pointer (some (a i)))) t e' ∧ Below w.heap.size w wr) (fun _ _ z _ => l.length - (intOf z).toNat)
      case atStart => exact ⟨0, w.heap.size, 0, _, [], by omega, rfl, rfl, rfl, HZ.out, rfl, HB.out⟩
      case round =>
        obtain ⟨k, b, p, e', t, hk, rfl, rfl, rfl, hz, hch, hbr⟩ := hrel
        have HBR := Lib.hid hbr
        have HZR := Lib.hid hz
        have HCR := Lib.hid hch
        by_cases hlt : k < l.length
        · obtain ⟨x, hx⟩ : ∃ x, l[k]? = some x := ⟨_, List.getElem?_eq_getElem hlt⟩
          obtain ⟨b0, off, rfl, c0⟩ := int_cell (HS.out.below hbr) hx
          have HD := Lib.hid (deeper_any b reason p x e' wr (HE.out.below hbr).as_ hz)
          clear hx hbr hz hch
          go_wp2_with fail
          refine HD.out.mono ?_
          rintro e w2 ⟨⟨n2, rfl, hn2, hz2⟩, hb2⟩
          have c0' := (Same.of_below hb2).cell c0
          have hB2 := HBR.out.trans (hb2.mono HBR.out.size)
          have hch2 : Ch w2 (.iface 96 (.pointer (some (a i)))) ((n2, reason, far p x) :: (b, reason, p) :: t) (.iface 56 (.pointer (some ⟨n2, 0, none⟩))) := ⟨rfl, _, hz2, rfl, _, (hb2.block _ (lt_of_block HZR.out)).trans HZR.out, Ch.below hb2 HCR.out⟩
          have HFU := Lib.hid (rfurther_any p x w2)
          have HB2 := Lib.hid hB2
          have HZ2 := Lib.hid hz2
          have HCH2 := Lib.hid hch2
          have HIS := Lib.hid (is_chain _ _ (a i) w2 hch2)
          clear hn2 hb2 hB2 hch2 hz2 c0 HD
          go_wp2_with fail
          refine HFU.out.mono ?_
          rintro e w3 ⟨rfl, rfl⟩
          generalize far p x = q at *
          have HR := Lib.hid (reason_any n2 reason q _ w2 (HE.out.below HB2.out).as_ HZ2.out)
          go_wp2_with fail
          refine HIS.out.mono ?_
          rintro e w3 ⟨rfl, rfl⟩
          go_wp2_with fail
          refine HR.out.mono ?_
          rintro e w3 ⟨rfl, hb3⟩
          have hB3 := HB2.out.trans (hb3.mono HB2.out.size)
          have HAT := Lib.hid (at_any n2 reason q _ w3 (HE.out.below hB3).as_ ((hb3.block _ (lt_of_block HZ2.out)).trans HZ2.out))
          have HB3 := Lib.hid hb3
          clear hb3 hB3 c0'
          go_wp2_with fail
          refine HAT.out.mono ?_
          rintro e w4 ⟨rfl, hb4⟩
          have h24 := HB3.out.trans (hb4.mono HB3.out.size)
          have HNU := Lib.hid (number_any w4 a (HE.out.below (HB2.out.trans (h24.mono HB2.out.size))) i hi _ _ (Ch.below h24 HCH2.out))
          have H24 := Lib.hid h24
          clear hb4 h24
          go_wp2_with fail
          refine HNU.out.mono ?_
          rintro e w5 ⟨rfl, hb5⟩
          have h25 := H24.out.trans (hb5.mono H24.out.size)
          have HE5 := Lib.hid (show w5.heap[n2]? = some (.cells #[.int .i64 reason, .int .i64 q, .iface 56 (.pointer (some ⟨b, 0, none⟩))] 58 (0, 0)) ∧ Ch w5 (.iface 96 (.pointer (some (a i)))) ((b, reason, p) :: t) (.iface 56 (.pointer (some ⟨b, 0, none⟩))) ∧ Below w.heap.size w w5 by
            obtain ⟨-, e2, h1, h2⟩ := HCH2.out
            rw [HZ2.out] at h1
            injection h1 with h1
            injection h1 with h1
            injection h1 with h1
            simp at h1
            subst h1
            exact ⟨(h25.block _ (lt_of_block HZ2.out)).trans HZ2.out, Ch.below h25 h2, HB2.out.trans (h25.mono HB2.out.size)⟩)
          clear hb5 h25
          go_wp2_with fail
          go_roundw
          case rel => exact ⟨k + 1, n2, q, _, _, by omega, by go_num, rfl, rfl, HE5.out.1, HE5.out.2.1, HE5.out.2.2⟩
          case measure => simp [intOf]; omega
        · obtain rfl : k = l.length := by omega
          have HAW := Lib.hid (awake_any wr a (HE.out.below hbr))
          clear hz hch hbr
          go_wp2_with fail
          refine HAW.out.mono ?_
          rintro e w2 ⟨rfl, hb⟩
          have HBE := Lib.hid (HBR.out.trans (hb.mono HBR.out.size))
          clear hb
          go_wp2_with fail
          go_ret
          exact ⟨rfl, HBE.out⟩
end Go.Proofs.YthpplbigmolnjaaDoor.FltW
