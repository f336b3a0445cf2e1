/- Queues: properties without one; for how long a message may wait yet. -/
import Derived.Test.YtjcdkgdeoeboaaaQuB
import Derived.Test.YtjcdkgdeoeboaaaOrd
set_option linter.unusedVariables false
set_option linter.unusedSimpArgs false
namespace Go.Proofs.Ytjcdkgdeoeboaaa.QuW
open Go.RowKit Go.Proofs.Ytjcdkgdeoeboaaa.Tc

/-- The properties but those of an identifier. -/
def wo (l : List Prp) (id : Int) : List Prp := l.filter fun p => !decide (p.id = id)
theorem wo_le (l : List Prp) (id : Int) : (wo l id).length ≤ l.length := List.length_filter_le _ _
theorem wo_fn (id : Int) (b : Nat) (p : Prp) (W : World) (hc : W.cell? ⟨b, 0, none⟩ = some (.int .i64 id)) :
    Calls Try.prog 38 #[Prp.val p, .pointer (some ⟨b, 0, none⟩)] W fun e w' => e = .returned (.bool (decide (p.id = id))) ∧ Below W.heap.size W w' := by
  have hb := alloc_below W (.cells (Prp.cells p).toArray 56)
  have HB := Lib.hid hb
  have hc2 := (Same.of_below hb).cell hc
  unfold Prp.cells at hc2
  clear hb hc
  unfold Prp.val
  go_enter Try.func38, Try.ntmps38
  go_wp2
  go_ret
  exact ⟨ret_bool (by rw [Bool.eq_iff_iff]; simp), HB.out⟩
theorem exp_fn (now : Int) (b : Nat) (m : Mg) (W : World) (hc : W.cell? ⟨b, 0, none⟩ = some (.int .i64 now)) :
    Calls Try.prog 35 #[Mg.val m, .pointer (some ⟨b, 0, none⟩)] W fun e w' => e = .returned (.bool (come m now)) ∧ Below W.heap.size W w' := by
  have hb := alloc_below W (.cells (Mg.vals m).toArray 24)
  have HB := Lib.hid hb
  have HC := Lib.hid (come_any m now (W.alloc (.cells (Mg.vals m).toArray 24)))
  have hc2 := (Same.of_below hb).cell hc
  unfold Mg.vals at hc2 HC
  unfold Mg.val at HC
  clear hb hc
  unfold Mg.val
  go_enter Try.func35, Try.ntmps35
  go_wp2_with fail
  refine HC.out.mono ?_
  rintro e w2 ⟨rfl, hb⟩
  have HB2 := Lib.hid (then_below HB.out hb)
  clear hb
  go_wp2_with fail
  go_ret
  exact ⟨rfl, HB2.out⟩
set_option maxRecDepth 100000 in
set_option maxHeartbeats 2000000 in
theorem without_any (w : World) (A : Option Addr) (cap : Nat) (l : List Prp) (hS : Rd w A (l.flatMap Prp.cells)) (hl : l.length < 1000000) (id : Int) :
    Calls Try.prog 29 #[.slice A l.length cap, .int .i64 id] w fun e w' => (∃ v, e = .returned v ∧ w'.ownsRow 0 56 4 v (wo l id).length ((wo l id).flatMap Prp.cells) ∧ ∀ g, v.ownBlock = some g → w.heap.size ≤ g) ∧ Below w.heap.size w w' := by
  generalize hP : (fun (e : Ending) (w' : World) => (∃ v, e = .returned v ∧ w'.ownsRow 0 56 4 v (wo l id).length ((wo l id).flatMap Prp.cells) ∧ ∀ g, v.ownBlock = some g → w.heap.size ≤ g) ∧ Below w.heap.size w w') = PP
  have HPP := Lib.hid (show ∀ (v : Value) (w' : World), w'.ownsRow 0 56 4 v (wo l id).length ((wo l id).flatMap Prp.cells) → (∀ g, v.ownBlock = some g → w.heap.size ≤ g) → Below w.heap.size w w' → PP (.returned v) w' by
    intro v' w' h hg hb
    rw [← hP]
    exact ⟨⟨v', rfl, h, hg⟩, hb⟩)
  clear hP
  have hb := alloc_below w (.cells #[.int .i64 id] 3)
  have HC := Lib.hid (cloneP_any _ A cap l (hS.below hb) hl)
  have HB := Lib.hid hb
  have HZ := Lib.hid (heap_alloc_new w (.cells #[.int .i64 id] 3))
  have HS1 := Lib.hid (show (w.alloc (.cells #[.int .i64 id] 3)).heap.size = w.heap.size + 1 by simp)
  have hE := enters_of Try.func38 (by kernel_rfl) rfl
  clear hS hb
  go_enter Try.func29, Try.ntmps29
  go_wp2_with fail
  refine HC.out.mono ?_
  rintro e w2 ⟨⟨v, rfl, hR, hN⟩, hb⟩
  have hz : w2.cell? ⟨w.heap.size, 0, none⟩ = some (.int .i64 id) := cell_of ((hb.block _ (by rw [HS1.out]; omega)).trans HZ.out) rfl
  have HD := Lib.hid (deleteP_any 38 w.heap.size (.int .i64 id) (fun p => decide (p.id = id)) hE (fun x W h => wo_fn id _ x W h) w2 v l hR hl hz (by
    intro g hg e
    have := hN g hg
    rw [HS1.out] at this
    omega))
  have HN := Lib.hid hN
  have HB2 := Lib.hid (HB.out.trans (hb.mono HB.out.size))
  clear hR hN hb hz
  go_wp2_with fail
  refine HD.out.mono ?_
  rintro e w3 ⟨⟨v', rfl, hR, hN'⟩, ht⟩
  have HE := Lib.hid (HPP.out v' w3 hR (by
    intro g hg
    have := HN.out g (hN' g hg)
    rw [HS1.out] at this
    omega) (HB2.out.trans (ht.below HB2.out.size (by
    intro i hi
    have := HN.out i (by simpa using hi)
    rw [HS1.out] at this
    omega))))
  clear hR hN' ht
  go_wp2_with fail
  exact HE.out
theorem wo_take {l : List Prp} {id : Int} {k : Nat} {x : Prp} (hx : l[k]? = some x) : wo (l.take (k + 1)) id = if x.id = id then wo (l.take k) id else wo (l.take k) id ++ [x] := by
  unfold wo
  rw [List.take_add_one, hx, List.filter_append]
  by_cases h : x.id = id
  · simp [h]
  · simp [h]
set_option maxRecDepth 100000 in
set_option maxHeartbeats 2000000 in
theorem rwithout_any (w : World) (A : Option Addr) (cap : Nat) (l : List Prp) (hS : Rd w A (l.flatMap Prp.cells)) (hl : l.length < 1000000) (id : Int) :
    Calls Try.prog 31 #[.slice A l.length cap, .int .i64 id] w fun e w' => (∃ v, e = .returned v ∧ w'.ownsRow 0 56 4 v (wo l id).length ((wo l id).flatMap Prp.cells) ∧ ∀ g, v.ownBlock = some g → w.heap.size ≤ g) ∧ Below w.heap.size w w' := by
  generalize hP : (fun (e : Ending) (w' : World) => (∃ v, e = .returned v ∧ w'.ownsRow 0 56 4 v (wo l id).length ((wo l id).flatMap Prp.cells) ∧ ∀ g, v.ownBlock = some g → w.heap.size ≤ g) ∧ Below w.heap.size w w') = PP
  have HPP := Lib.hid (show ∀ (v : Value) (w' : World), w'.ownsRow 0 56 4 v (wo l id).length ((wo l id).flatMap Prp.cells) → (∀ g, v.ownBlock = some g → w.heap.size ≤ g) → Below w.heap.size w w' → PP (.returned v) w' by
    intro v' w' h hg hb
    rw [← hP]
    exact ⟨⟨v', rfl, h, hg⟩, hb⟩)
  clear hP
  have HS := Lib.hid hS
  clear hS
  go_enter Try.func31, Try.ntmps31
  go_wp2
  go_loopw [5, 6] (fun v x wr => ∃ k : Nat, k ≤ l.length ∧ x = .int .i64 k ∧ wr.ownsRow 0 56 4 v (wo (l.take k) id).length ((wo (l.take k) id).flatMap Prp.cells) ∧ (∀ g, v.ownBlock = some g → w.heap.size ≤ g) ∧ Below w.heap.size w wr) (fun _ x _ => l.length - (intOf x).toNat)
  case atStart => exact ⟨0, by omega, rfl, own_nil w 56 4, by intro g hg; simp [Value.ownBlock] at hg, Below.refl _ _⟩
  case round =>
    obtain ⟨k, hk, rfl, hown, hN, hB⟩ := hrel
    by_cases hlt : k < l.length
    · obtain ⟨x, hx⟩ : ∃ x, l[k]? = some x := ⟨_, List.getElem?_eq_getElem hlt⟩
      obtain ⟨b', off, rfl, c0, c1, c2, c3⟩ := rd_prp (HS.out.below hB) hx
      have HX := Lib.hid (wo_take (id := id) hx)
      have HB := Lib.hid hB
      have HN := Lib.hid hN
      have HO := Lib.hid hown
      by_cases e : x.id = id
      · have e2 : (x.id != id) = false := by simp [e]
        rw [if_pos e] at HX
        clear e hx hown hN hB
        go_wp2_with fail
        go_roundw
        case rel => exact ⟨k + 1, by omega, by go_num, by rw [HX.out]; exact HO.out, HN.out, HB.out⟩
        case measure => simp [intOf]; omega
      · have e2 : (x.id != id) = true := by simp [e]
        rw [if_neg e] at HX
        obtain ⟨i0, hi, hz0, hz1, hz2⟩ := info_parts info56
        have hwl := wo_le (l.take k) id
        rw [List.length_take] at hwl
        obtain ⟨v', w2, hr, ho, ht, hloc, hsz⟩ := append_one (P := Try.prog) (ty := 22) Try.underlying22 hi hz0 hz1 hz2 rfl (by decide) hown (Prp.cells x) rfl (by simpa using prp_one [x]) (by unfold maxLen; omega) (by omega)
        have HRUN := Lib.hid hr
        have HO2 := Lib.hid (show w2.ownsRow 0 56 4 v' (wo (l.take (k + 1)) id).length ((wo (l.take (k + 1)) id).flatMap Prp.cells) by
          rw [HX.out]; simpa using ho)
        have HN2 := Lib.hid (show ∀ g, v'.ownBlock = some g → w.heap.size ≤ g by
          intro g hg
          rcases hloc g hg with h | h
          · exact HN.out g h
          · have := HB.out.size
            omega)
        have HB2 := Lib.hid (HB.out.trans (ht.below HB.out.size (by
          intro i hi
          exact HN.out i (by simpa using hi))))
        unfold Prp.cells at HRUN
        clear e hx hown hN hB hr ho ht hloc hsz hi hz0 hz1 hz2
        have c0' := Lib.cell?_alloc_some (.cells #[.int .i64 x.id, .int .i64 x.n, .string x.s, .string x.v] 56) c0
        go_wp2_with (at_builtin; refine wpList_append_eq rfl _ _ _ rfl rfl rfl HRUN.out ?_)
        go_roundw
        case rel => exact ⟨k + 1, by omega, by go_num, HO2.out, HN2.out, HB2.out⟩
        case measure => simp [intOf]; omega
    · obtain rfl : k = l.length := by omega
      rw [List.take_length] at hown
      have HE := Lib.hid (HPP.out _ wr hown hN hB)
      obtain ⟨A', c', rfl⟩ := own_form hown
      clear hown hN hB
      go_wp2
      exact HE.out
end Go.Proofs.Ytjcdkgdeoeboaaa.QuW
