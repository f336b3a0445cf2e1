/- Queues: whether messages are small, and the same; the number of a property. -/
import Derived.Test.YtjcdkgdeoeboaaaQuE
set_option linter.unusedVariables false
set_option linter.unusedSimpArgs false
namespace Go.Proofs.Ytjcdkgdeoeboaaa.QuW
open Go.RowKit Go.Proofs.Ytjcdkgdeoeboaaa.Tc

/-- A bool that tells something if it is true. -/
def BPost (C : Prop) (e : Ending) : Prop := ∃ b, e = .returned (.bool b) ∧ (b = true → C)
theorem BPost.no {C : Prop} : BPost C (.returned (.bool false)) := ⟨false, rfl, fun h => by cases h⟩
theorem BPost.of {C : Prop} {b : Bool} (h : b = true → C) : BPost C (.returned (.bool b)) := ⟨b, rfl, h⟩
set_option maxRecDepth 100000 in
set_option maxHeartbeats 2000000 in
theorem fewp_any (w : World) (A : Option Addr) (cap : Nat) (l : List Prp) (hS : Rd w A (l.flatMap Prp.cells)) (hlen : l.length ≤ 9223372036854775807) :
    Calls Try.prog 25 #[.slice A l.length cap] w fun e w' => BPost (l.length ≤ 70) e ∧ w = w' := by
  have HS := Lib.hid hS
  clear hS
  go_enter Try.func25, Try.ntmps25
  go_wp2
  go_loopw [3] (fun x wr => ∃ k : Nat, k ≤ l.length ∧ k ≤ 70 ∧ x = .int .i64 k ∧ w = wr) (fun x _ => l.length - (intOf x).toNat)
  case atStart => exact ⟨0, by omega, by omega, rfl, by first | rfl | trivial⟩
  case round =>
    obtain ⟨k, hk, hk70, rfl, rfl⟩ := hrel
    by_cases hlt : k < l.length
    · by_cases h70 : k < 70
      · obtain ⟨x, hx⟩ : ∃ x, l[k]? = some x := ⟨_, List.getElem?_eq_getElem hlt⟩
        obtain ⟨b, off, rfl, c0, c1, c2, c3⟩ := rd_prp HS.out hx
        clear hx
        by_cases h1 : 200 < x.s.size
        · go_wp2_with fail
          go_ret
          exact ⟨BPost.no, by first | rfl | trivial⟩
        · by_cases h2 : 200 < x.v.size
          · go_wp2_with fail
            go_ret
            exact ⟨BPost.no, by first | rfl | trivial⟩
          · go_wp2_with fail
            go_roundw
            case rel => exact ⟨k + 1, by omega, by omega, by go_num, by first | rfl | trivial⟩
            case measure => simp [intOf]; omega
      · have h71 : ¬ l.length ≤ 70 := by omega
        go_wp2
        go_ret
        exact ⟨BPost.of (b := decide ((l.length : Int) ≤ 70)) (fun h => absurd (of_decide_eq_true h) (by omega)), by first | rfl | trivial⟩
    · obtain rfl : k = l.length := by omega
      go_wp2
      go_ret
      exact ⟨BPost.of (b := decide ((l.length : Int) ≤ 70)) (fun _ => hk70), by first | rfl | trivial⟩
set_option maxRecDepth 100000 in
set_option maxHeartbeats 2000000 in
theorem small_any (m : Mg) (w : World) (hS : Rd w m.pA (m.props.flatMap Prp.cells)) (hlen : m.props.length ≤ 9223372036854775807) :
    Calls Try.prog 7 #[m.val] w fun e w' => BPost (m.props.length ≤ 70) e ∧ Below w.heap.size w w' := by
  have hb := alloc_below w (.cells m.vals.toArray 24)
  have HF := Lib.hid (fewp_any (w.alloc (.cells m.vals.toArray 24)) m.pA m.pc m.props (hS.below hb) hlen)
  have HB := Lib.hid hb
  unfold Mg.vals at HB HF
  unfold Mg.val
  clear hb hS
  by_cases h1 : m.topic.size ≤ 200
  case neg =>
    go_enter Try.func7, Try.ntmps7
    go_wp2_with fail
    go_ret
    exact ⟨BPost.no, HB.out⟩
  by_cases h2 : m.payload.size ≤ 200
  case neg =>
    go_enter Try.func7, Try.ntmps7
    go_wp2_with fail
    go_ret
    exact ⟨BPost.no, HB.out⟩
  by_cases h3 : m.from_.size ≤ 100
  case neg =>
    go_enter Try.func7, Try.ntmps7
    go_wp2_with fail
    go_ret
    exact ⟨BPost.no, HB.out⟩
  by_cases h4 : m.group.size ≤ 200
  case neg =>
    go_enter Try.func7, Try.ntmps7
    go_wp2_with fail
    go_ret
    exact ⟨BPost.no, HB.out⟩
  go_enter Try.func7, Try.ntmps7
  go_wp2_with fail
  refine HF.out.mono ?_
  rintro e w2 ⟨⟨b, rfl, hbb⟩, rfl⟩
  have HBB := Lib.hid hbb
  clear hbb
  go_wp2_with fail
  go_ret
  exact ⟨BPost.of HBB.out, HB.out⟩
set_option maxRecDepth 100000 in
set_option maxHeartbeats 4000000 in
theorem samep_any (w : World) (A B : Option Addr) (ca cb : Nat) (l : List Prp) (hA : Rd w A (l.flatMap Prp.cells)) (hB : Rd w B (l.flatMap Prp.cells)) (hlen : l.length ≤ 1000000) :
    Calls Try.prog 32 #[.slice A l.length ca, .slice B l.length cb] w fun e w' => e = .returned (.bool true) ∧ Dr w w' := by
  have HA := Lib.hid hA
  have HB := Lib.hid hB
  clear hA hB
  go_enter Try.func32, Try.ntmps32
  go_wp2
  go_loopw [5] (fun x wr => ∃ k : Nat, k ≤ l.length ∧ x = .int .i64 k ∧ Dr w wr) (fun x _ => l.length - (intOf x).toNat)
  case atStart => exact ⟨0, by omega, rfl, dr_refl w⟩
  case round =>
    obtain ⟨k, hk, rfl, hD⟩ := hrel
    have HD := Lib.hid hD
    by_cases hlk : k < l.length
    · obtain ⟨x, hx⟩ : ∃ x, l[k]? = some x := ⟨_, List.getElem?_eq_getElem hlk⟩
      obtain ⟨b, off, rfl, c0, c1, c2, c3⟩ := rd_prp (HA.out.below hD.below) hx
      obtain ⟨b2, off2, rfl, d0, d1, d2, d3⟩ := rd_prp (HB.out.below hD.below) hx
      have g0 := fun n : Wd (Dr wr) => n.cellD c0
      have g1 := fun n : Wd (Dr wr) => n.cellD c1
      have g2 := fun n : Wd (Dr wr) => n.cellD c2
      have g3 := fun n : Wd (Dr wr) => n.cellD c3
      have k0 := fun n : Wd (Dr wr) => n.cellD d0
      have k1 := fun n : Wd (Dr wr) => n.cellD d1
      have k2 := fun n : Wd (Dr wr) => n.cellD d2
      have k3 := fun n : Wd (Dr wr) => n.cellD d3
      have hk1 : (k : Int) < l.length := by omega
      have t1 := str_eq (rfl : x.s = x.s)
      have t2 := str_eq (rfl : x.v = x.v)
      clear hx hD c0 c1 c2 c3 d0 d1 d2 d3
      go_wp2_with fail
      refine wp_region_cls (Dr wr) (dr_drew wr) (by kernel_rfl) (by kernel_rfl) ?_
      repeat (go_big_quiet_step (fail))
      refine wpQuiet_nil ?_
      rintro _ ⟨⟨wq, hq⟩, rfl⟩
      have HDQ := Lib.hid (Dr.trans HD.out hq)
      clear hq g0 g1 g2 g3 k0 k1 k2 k3
      go_wp2
      go_roundw
      case rel => exact ⟨k + 1, by omega, by go_num, HDQ.out⟩
      case measure => simp [intOf]; omega
    · obtain rfl : k = l.length := by omega
      clear hD
      go_wp2
      go_ret
      exact ⟨rfl, HD.out⟩
set_option maxRecDepth 100000 in
set_option maxHeartbeats 4000000 in
theorem samem_any (a b : Mg) (h : Sim a b) (w : World) (hA : Rd w a.pA (a.props.flatMap Prp.cells)) (hB : Rd w b.pA (b.props.flatMap Prp.cells)) (hlen : a.props.length ≤ 1000000) :
    Calls Try.prog 11 #[a.val, b.val] w fun e w' => e = .returned (.bool true) ∧ Below w.heap.size w w' := by
  obtain ⟨a0, a1, a2, a3, a4, a5, a6, a7, a8, a9, a10⟩ := a
  obtain ⟨b0, b1, b2, b3, b4, b5, b6, b7, b8, b9, b10⟩ := b
  obtain ⟨e0, e1, e2, e3, e4, e5, e6, e7, e8⟩ := h
  simp only at e0 e1 e2 e3 e4 e5 e6 e7 e8 hA hB hlen
  subst e0 e1 e2 e3 e4 e5 e6 e7 e8
  have hb0 := alloc_below w (.cells #[.string a0, .string a1, .int .i64 a2, .bool a3, .slice a4 a6.length a5, .string a7, .int .i64 a8, .int .i64 a9, .string a10] 24)
  have hb1 := alloc_below (w.alloc (.cells #[.string a0, .string a1, .int .i64 a2, .bool a3, .slice a4 a6.length a5, .string a7, .int .i64 a8, .int .i64 a9, .string a10] 24)) (.cells #[.string a0, .string a1, .int .i64 a2, .bool a3, .slice b4 a6.length b5, .string a7, .int .i64 a8, .int .i64 a9, .string a10] 24)
  have hbb := hb0.trans (hb1.mono hb0.size)
  have HS := Lib.hid (samep_any _ a4 b4 a5 b5 a6 (hA.below hbb) (hB.below hbb) hlen)
  have HB := Lib.hid hbb
  have t0 := str_eq (rfl : a0 = a0)
  have t1 := str_eq (rfl : a1 = a1)
  have t7 := str_eq (rfl : a7 = a7)
  have t10 := str_eq (rfl : a10 = a10)
  clear hb0 hb1 hbb hA hB
  unfold Mg.val
  dsimp only
  go_enter Try.func11, Try.ntmps11
  go_wp2_with fail
  refine HS.out.mono ?_
  rintro e w2 ⟨rfl, hd⟩
  have HB2 := Lib.hid (HB.out.trans ((Dr.below hd).mono HB.out.size))
  clear hd
  go_wp2_with fail
  go_ret
  exact ⟨rfl, HB2.out⟩
theorem Sim.refl (a : Mg) : Sim a a := ⟨rfl, rfl, rfl, rfl, rfl, rfl, rfl, rfl, rfl⟩
theorem Sim.symm {a b : Mg} (h : Sim a b) : Sim b a := ⟨h.1.symm, h.2.symm, h.3.symm, h.4.symm, h.5.symm, h.6.symm, h.7.symm, h.8.symm, h.9.symm⟩
theorem Sim.trans {a b c : Mg} (h : Sim a b) (k : Sim b c) : Sim a c := ⟨h.1.trans k.1, h.2.trans k.2, h.3.trans k.3, h.4.trans k.4, h.5.trans k.5, h.6.trans k.6, h.7.trans k.7, h.8.trans k.8, h.9.trans k.9⟩
set_option maxRecDepth 100000 in
set_option maxHeartbeats 2000000 in
theorem get_first (p : Prp) (l : List Prp) (w : World) (A : Option Addr) (cap : Nat) (hS : Rd w A ((p :: l).flatMap Prp.cells)) (hlen : l.length ≤ 1000000) :
    Calls Try.prog 36 #[.slice A (l.length + 1) cap, .int .i64 p.id] w fun e w' => e = .returned (.tuple #[Prp.val p, .bool true]) ∧ Below w.heap.size w w' := by
  have hb := alloc_below w (.cells #[.int .i64 0, .int .i64 0, .string ⟨#[]⟩, .string ⟨#[]⟩] 56)
  have HZ := Lib.hid (heap_alloc_new w (.cells #[.int .i64 0, .int .i64 0, .string ⟨#[]⟩, .string ⟨#[]⟩] 56))
  obtain ⟨b, off, rfl, d0, d1, d2, d3⟩ := rd_prp (hS.below hb) (k := 0) rfl
  simp only [Nat.zero_mul, Nat.add_zero] at d0 d1 d2 d3
  obtain ⟨W, hW⟩ : ∃ W, W = w.alloc (.cells #[.int .i64 0, .int .i64 0, .string ⟨#[]⟩, .string ⟨#[]⟩] 56) := ⟨_, rfl⟩
  have HW := Lib.hid hW
  rw [← hW] at hb HZ d0 d1 d2 d3
  have HB := Lib.hid hb
  have c0 : W.cell? ⟨w.heap.size, 0, none⟩ = some (.int .i64 0) := cell_of HZ.out rfl
  have c1 : W.cell? ⟨w.heap.size, 1, none⟩ = some (.int .i64 0) := cell_of HZ.out rfl
  have c2 : W.cell? ⟨w.heap.size, 2, none⟩ = some (.string ⟨#[]⟩) := cell_of HZ.out rfl
  have c3 : W.cell? ⟨w.heap.size, 3, none⟩ = some (.string ⟨#[]⟩) := cell_of HZ.out rfl
  have f0 := free_of HZ.out 0
  have f1 := free_of HZ.out 1
  have f2 := free_of HZ.out 2
  have f3 := free_of HZ.out 3
  have hp1 := set_of HZ.out 0 (.int .i64 p.id)
  have hp2 := set_of hp1 1 (.int .i64 p.n)
  have hp3 := set_of hp2 2 (.string p.s)
  have hp4 : ((((W.setCell ⟨w.heap.size, 0, none⟩ (.int .i64 p.id)).setCell ⟨w.heap.size, 1, none⟩ (.int .i64 p.n)).setCell ⟨w.heap.size, 2, none⟩ (.string p.s)).setCell ⟨w.heap.size, 3, none⟩ (.string p.v)).heap[w.heap.size]? = some (.cells #[.int .i64 p.id, .int .i64 p.n, .string p.s, .string p.v] 56 (0, 0)) := set_of hp3 3 (.string p.v)
  have p0 := cell_of hp4 (o := 0) (v := .int .i64 p.id) rfl
  have p1 := cell_of hp4 (o := 1) (v := .int .i64 p.n) rfl
  have p2 := cell_of hp4 (o := 2) (v := .string p.s) rfl
  have p3 := cell_of hp4 (o := 3) (v := .string p.v) rfl
  have HBE := Lib.hid (((((Tch.of_below (S := []) hb).setCell (p := ⟨w.heap.size, 0, none⟩) (.inr (Nat.le_refl _)) (.int .i64 p.id)).setCell (p := ⟨w.heap.size, 1, none⟩) (.inr (Nat.le_refl _)) (.int .i64 p.n)).setCell (p := ⟨w.heap.size, 2, none⟩) (.inr (Nat.le_refl _)) (.string p.s)).setCell (p := ⟨w.heap.size, 3, none⟩) (.inr (Nat.le_refl _)) (.string p.v) |>.below (Nat.le_refl _) (by simp))
  have hlc : (0 : Int) < l.length + 1 := by omega
  clear hS hb hW hp1 hp2 hp3 hp4
  unfold Prp.val
  go_enter Try.func36, Try.ntmps36
  go_upto_region 1 with (fail)
  rw [← HW.out]
  clear HW
  go_wp2
  go_loopw [6] (fun x wr => x = .int .i64 0 ∧ wr = W) (fun x _ => 1)
  case atStart => exact ⟨rfl, rfl⟩
  case round =>
    obtain ⟨rfl, rfl⟩ := hrel
    go_wp2_with fail
    exact bodyPost_ret (v := .tuple #[.agg #[.int .i64 p.id, .int .i64 p.n, .string p.s, .string p.v], .bool true]) (by simp [results, Try.results36, go_sem, *]) rfl ⟨rfl, HBE.out⟩
set_option maxRecDepth 100000 in
set_option maxHeartbeats 2000000 in
theorem number_first (p : Prp) (l : List Prp) (d : Int) (w : World) (A : Option Addr) (cap : Nat) (hS : Rd w A ((p :: l).flatMap Prp.cells)) (hlen : l.length ≤ 1000000) :
    Calls Try.prog 26 #[.slice A (l.length + 1) cap, .int .i64 p.id, .int .i64 d] w fun e w' => e = .returned (.int .i64 p.n) ∧ Below w.heap.size w w' := by
  have HG := Lib.hid (get_first p l w A cap hS hlen)
  unfold Prp.val at HG
  clear hS
  go_enter Try.func26, Try.ntmps26
  go_wp2_with fail
  refine HG.out.mono ?_
  rintro e w2 ⟨rfl, hb⟩
  have HB := Lib.hid (hb.trans ((alloc_below w2 (.cells #[.int .i64 p.id, .int .i64 p.n, .string p.s, .string p.v] 56)).mono hb.size))
  clear hb
  go_wp2_with fail
  go_ret
  exact ⟨rfl, HB.out⟩
end Go.Proofs.Ytjcdkgdeoeboaaa.QuW
