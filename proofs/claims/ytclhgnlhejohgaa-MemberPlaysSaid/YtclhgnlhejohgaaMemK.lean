/- Lists compared. -/
import Derived.Test.YtclhgnlhejohgaaMemJ
set_option linter.unusedVariables false
set_option linter.unusedSimpArgs false
namespace Go.Proofs.Ytclhgnlhejohgaa.MemW
open Go.RowKit Go.Proofs.Ytclhgnlhejohgaa.Tc Go.Proofs.Ytclhgnlhejohgaa.MemP
open Go.Proofs.Ytclhgnlhejohgaa.PickW (OwnS Newer kS kI cells9 str_cell strs_new alloc_below)

set_option maxRecDepth 100000 in
set_option maxHeartbeats 4000000 in
theorem same_mems (w : World) (A B : Option Addr) (ca cb : Nat) (l : List Mem) (hA : SliceIs kMem w A l) (hB : SliceIs kMem w B l) :
    Calls Try.prog 49 #[.slice A l.length ca, .slice B l.length cb] w fun e w' => e = .returned (.bool true) ∧ Dr w w' := by
  have hlen := hA.len
  unfold maxLen at hlen
  have HA := Lib.hid hA
  have HB := Lib.hid hB
  clear hA hB
  go_enter Try.func49, Try.ntmps49
  go_wp2
  go_loopw [5] (fun x wr => ∃ k : Nat, k ≤ l.length ∧ x = .int .i64 k ∧ Dr w wr) (fun x _ => l.length - (intOf x).toNat)
  case atStart => exact ⟨0, by omega, rfl, dr_refl w⟩
  case round =>
    obtain ⟨k, hk, rfl, hD⟩ := hrel
    have HD := Lib.hid hD
    by_cases hlk : k < l.length
    · obtain ⟨x, hx⟩ : ∃ x, l[k]? = some x := ⟨_, List.getElem?_eq_getElem hlk⟩
      obtain ⟨b, off, rfl, -, c0, c1, c2, c3, -⟩ := mem_cells (HA.out.below hD.below) hx
      obtain ⟨b2, off2, rfl, -, d0, d1, d2, d3, -⟩ := mem_cells (HB.out.below hD.below) hx
      have g0 := fun n : Wd (Dr wr) => n.cellD c0
      have g1 := fun n : Wd (Dr wr) => n.cellD c1
      have g2 := fun n : Wd (Dr wr) => n.cellD c2
      have g3 := fun n : Wd (Dr wr) => n.cellD c3
      have k0 := fun n : Wd (Dr wr) => n.cellD d0
      have k1 := fun n : Wd (Dr wr) => n.cellD d1
      have k2 := fun n : Wd (Dr wr) => n.cellD d2
      have k3 := fun n : Wd (Dr wr) => n.cellD d3
      have hk1 : (k : Int) < l.length := by omega
      have t1 := str_eq (rfl : x.client = x.client)
      clear hx hD c0 c1 c2 c3 d0 d1 d2 d3
      go_wp2_with fail
      refine wp_region_cls (Dr wr) (dr_drew wr) (by kernel_rfl) (by kernel_rfl) ?_
      repeat (go_big_quiet_step (fail))
      refine wpQuiet_nil ?_
      rintro _ ⟨⟨wq, hq⟩, rfl⟩
      have HDQ := Lib.hid (Dr.trans HD.out hq)
      clear hq g0 g1 g2 g3 k0 k1 k2 k3
      go_wp2
      go_roundw
      case rel => exact ⟨k + 1, by omega, by go_num, HDQ.out⟩
      case measure => simp [intOf]; omega
    · obtain rfl : k = l.length := by omega
      clear hD
      go_wp2
      go_ret
      exact ⟨rfl, HD.out⟩
set_option maxRecDepth 100000 in
set_option maxHeartbeats 4000000 in
theorem same_texts (w : World) (A B : Option Addr) (ca cb : Nat) (l : List ByteArray) (hA : SliceIs kS w A l) (hB : SliceIs kS w B l) :
    Calls Try.prog 51 #[.slice A l.length ca, .slice B l.length cb] w fun e w' => e = .returned (.bool true) ∧ Dr w w' := by
  have hlen := hA.len
  unfold maxLen at hlen
  have HA := Lib.hid hA
  have HB := Lib.hid hB
  clear hA hB
  go_enter Try.func51, Try.ntmps51
  go_wp2
  go_loopw [5] (fun x wr => ∃ k : Nat, k ≤ l.length ∧ x = .int .i64 k ∧ Dr w wr) (fun x _ => l.length - (intOf x).toNat)
  case atStart => exact ⟨0, by omega, rfl, dr_refl w⟩
  case round =>
    obtain ⟨k, hk, rfl, hD⟩ := hrel
    have HD := Lib.hid hD
    by_cases hlk : k < l.length
    · obtain ⟨b, off, rfl, hc⟩ : ∃ b off, A = some ⟨b, off, none⟩ ∧ wr.cell? ⟨b, off + k, none⟩ = some (.string l[k]) := by
        obtain ⟨b, off, hA1, _, hc⟩ := (HA.out.below hD.below).at_ (by omega)
        obtain ⟨cs, ⟨rfl, _⟩, hcell⟩ := hc k l[k] (List.getElem?_eq_getElem hlk)
        have := hcell 0 _ rfl
        rw [cells9, Nat.mul_one, Nat.add_zero] at this
        exact ⟨b, off, hA1, this⟩
      obtain ⟨b2, off2, rfl, hc2⟩ : ∃ b off, B = some ⟨b, off, none⟩ ∧ wr.cell? ⟨b, off + k, none⟩ = some (.string l[k]) := by
        obtain ⟨b, off, hA1, _, hc⟩ := (HB.out.below hD.below).at_ (by omega)
        obtain ⟨cs, ⟨rfl, _⟩, hcell⟩ := hc k l[k] (List.getElem?_eq_getElem hlk)
        have := hcell 0 _ rfl
        rw [cells9, Nat.mul_one, Nat.add_zero] at this
        exact ⟨b, off, hA1, this⟩
      generalize l[k] = y at hc hc2
      have g0 := fun n : Wd (Dr wr) => n.cellD hc
      have k0 := fun n : Wd (Dr wr) => n.cellD hc2
      have hk1 : (k : Int) < l.length := by omega
      clear hc hc2 hD
      go_wp2_with fail
      refine wp_region_cls (Dr wr) (dr_drew wr) (by kernel_rfl) (by kernel_rfl) ?_
      repeat (go_big_quiet_step (fail))
      refine wpQuiet_nil ?_
      rintro _ ⟨⟨wq, hq⟩, rfl⟩
      have HDQ := Lib.hid (Dr.trans HD.out hq)
      clear hq g0 k0
      go_wp2
      go_roundw
      case rel => exact ⟨k + 1, by omega, by go_num, HDQ.out⟩
      case measure => simp [intOf]; omega
    · obtain rfl : k = l.length := by omega
      clear hD
      go_wp2
      go_ret
      exact ⟨rfl, HD.out⟩
end Go.Proofs.Ytclhgnlhejohgaa.MemW
