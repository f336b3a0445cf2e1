/- Items with one of them with a client; few items; what must come. -/
import Derived.Test.YtclhgnlhejohgaaLaneF
set_option linter.unusedVariables false
set_option linter.unusedSimpArgs false
namespace Go.Proofs.Ytclhgnlhejohgaa.LaneW
open Go.RowKit Go.Proofs.Ytclhgnlhejohgaa.Tc Go.Proofs.Ytclhgnlhejohgaa.LaneP

theorem flat_get (l : List Tc.It) (i j : Nat) (hj : j < 12) : (l.flatMap It.vals)[i * 12 + j]? = (l[i]?).bind fun x => x.vals[j]? := by
  induction l generalizing i with
  | nil => simp
  | cons x l ih =>
    have hx : x.vals.length = 12 := rfl
    rw [List.flatMap_cons]
    cases i with
    | zero =>
      rw [Nat.zero_mul, Nat.zero_add, List.getElem?_append_left (by omega)]
      rfl
    | succ i =>
      rw [List.getElem?_append_right (by omega)]
      have : (i + 1) * 12 + j - x.vals.length = i * 12 + j := by omega
      rw [this, ih i]
      simp
theorem flat_len (l : List Tc.It) : (l.flatMap It.vals).length = l.length * 12 := by
  induction l with
  | nil => rfl
  | cons x l ih =>
    have hx : x.vals.length = 12 := rfl
    rw [List.flatMap_cons, List.length_append, ih, hx, List.length_cons]; omega
theorem info45 : (Try.prog.info? 45).map (fun i => (i.zero, i.size, i.bytes)) = some (some (.agg #[.string ByteArray.empty, .string ByteArray.empty, .int .i64 0, .bool false, .slice none 0 0, .string ByteArray.empty, .int .i64 0, .int .i64 0, .string ByteArray.empty,
  .string ByteArray.empty, .slice none 0 0, .bool false]), 12, 168) := by kernel_rfl
/-- What an item's slices lead to can be read. -/
def Led (w : World) (x : Tc.It) : Prop := x.wf ∧ SliceIs kProp w x.msg.pA x.msg.props ∧ SliceIs aS w x.bA x.behind
theorem Led.below {w w' : World} {x : Tc.It} (h : Led w x) (hb : Below w.heap.size w w') : Led w' x := ⟨h.1, h.2.1.below hb, h.2.2.below hb⟩
theorem items_of {w : World} {g : Nat} {cs : Array Value} {l : List Tc.It} {f : Nat × Nat} (h : w.heap[g]? = some (.cells cs 45 f)) (hc : ∀ (i : Nat) (u : Value), (l.flatMap It.vals)[i]? = some u → cs[i]? = some u) (hl : l.length ≤ maxLen) (hx : ∀ x ∈ l, Led w x) :
    SliceIs kItem w (some ⟨g, 0, none⟩) l := by
  refine ⟨hl, fun _ => ⟨g, 0, rfl, lt_of_block h, fun i x hi => ⟨x.vals, (kItem_rel _ _ _).2 ⟨rfl, hx x (List.mem_of_getElem? hi)⟩, fun j u hu => ?_⟩⟩⟩
  rw [cellsItem, Nat.zero_add]
  refine cell_of h (hc _ u ?_)
  have hj : j < 12 := (List.getElem?_eq_some_iff.1 hu).1
  rw [flat_get l i j hj, hi]
  exact hu
/-- Items in an array of the call's own; what they lead to is older. -/
def OwnIt (w0 w : World) (v : Value) (l : List Tc.It) : Prop := w.ownsRow 0 45 12 v l.length (l.flatMap It.vals) ∧ ∀ x ∈ l, Led w0 x
theorem OwnIt.nil (w0 w : World) : OwnIt w0 w (.slice none 0 0) [] := ⟨own_nil w 45 12, by simp⟩
theorem OwnIt.form {w0 w : World} {v : Value} {l : List Tc.It} (h : OwnIt w0 w v l) (hb : Below w0.heap.size w0 w) : ∃ A c, v = .slice A l.length c ∧ SliceIs kItem w A l := by
  obtain ⟨A, c, rfl⟩ := own_form h.1
  rcases Nat.eq_zero_or_pos l.length with h0 | h0
  · obtain rfl : l = [] := List.eq_nil_of_length_eq_zero h0
    exact ⟨A, c, rfl, SliceIs.nil _ _ _⟩
  · refine ⟨A, c, rfl, ⟨own_le h.1, fun hn => ?_⟩⟩
    obtain ⟨g, c', hv, hf, hc⟩ := own_cells h.1 hn
    injection hv with hA
    subst hA
    refine ⟨g, 0, rfl, own_lt h.1 (g := g) rfl, fun i x hi => ⟨x.vals, (kItem_rel _ _ _).2 ⟨rfl, (h.2 x (List.mem_of_getElem? hi)).below hb⟩, fun j u hu => ?_⟩⟩
    rw [cellsItem, Nat.zero_add]
    refine hc _ u ?_
    have hj : j < 12 := (List.getElem?_eq_some_iff.1 hu).1
    rw [flat_get l i j hj, hi]
    exact hu
theorem OwnIt.below {w0 w w' : World} {v : Value} {l : List Tc.It} (h : OwnIt w0 w v l) (hb : Below w.heap.size w w') : OwnIt w0 w' v l := ⟨own_kept h.1 (Tch.of_below (S := []) hb) (by simp), h.2⟩
theorem OwnIt.snoc {w0 w : World} {v : Value} {l : List Tc.It} (h : OwnIt w0 w v l) (hl : l.length < 1000000) (x : Tc.It) (hx : Led w0 x) :
    ∃ v' w', (Builtin.append_ #[37, 37] 37 #[v, .slice (some ⟨w.heap.size, 0, none⟩) 1 1]).run Try.prog (w.alloc (.cells x.vals.toArray 45)) = .ok v' w' ∧ OwnIt w0 w' v' (l ++ [x]) ∧ Tch v.ownBlock.toList w w' ∧
      (∀ g, v'.ownBlock = some g → v.ownBlock = some g ∨ w.heap.size ≤ g) := by
  obtain ⟨i0, hi, hz0, hz1, hz2⟩ := info_parts info45
  obtain ⟨v', w', hr, hown, ht, hloc, _⟩ := append_one (P := Try.prog) (ty := 37) Try.underlying37 hi hz0 hz1 hz2 rfl (by decide) h.1 x.vals rfl (by intro u hu; simp [It.vals] at hu; rcases hu with rfl | rfl | rfl | rfl | rfl | rfl | rfl | rfl | rfl | rfl | rfl | rfl <;> rfl) (by unfold maxLen; omega) (by omega)
  refine ⟨v', w', hr, ⟨by simpa using hown, ?_⟩, ht, hloc⟩
  intro y hy
  rcases List.mem_append.1 hy with hy | hy
  · exact h.2 y hy
  · rw [List.mem_singleton.1 hy]; exact hx

/-! ### With -/
def wit (x : Tc.It) (j : Nat) (a : Int) (c : ByteArray) : Tc.It := if (j : Int) = a then { x with at_ := c } else x
def wl (l : List Tc.It) (a : Int) (c : ByteArray) : Nat → List Tc.It
  | 0 => []
  | n + 1 => match l[n]? with | some x => wl l a c n ++ [wit x n a c] | none => wl l a c n
theorem wl_succ {l : List Tc.It} {a : Int} {c : ByteArray} {n : Nat} {x : Tc.It} (h : l[n]? = some x) : wl l a c (n + 1) = wl l a c n ++ [wit x n a c] := by rw [wl.eq_2, h]
theorem wl_len (l : List Tc.It) (a : Int) (c : ByteArray) (n : Nat) (h : n ≤ l.length) : (wl l a c n).length = n := by
  induction n with
  | zero => rfl
  | succ n ih => rw [wl_succ (List.getElem?_eq_getElem (by omega)), List.length_append, ih (by omega)]; rfl
theorem wl_get (l : List Tc.It) (a : Int) (c : ByteArray) (n : Nat) (h : n ≤ l.length) (i : Nat) : (wl l a c n)[i]? = if i < n then (l[i]?).map (fun x => wit x i a c) else none := by
  induction n with
  | zero => simp [wl]
  | succ n ih =>
    rw [wl_succ (List.getElem?_eq_getElem (by omega))]
    by_cases h1 : i < n
    · rw [List.getElem?_append_left (by rw [wl_len l a c n (by omega)]; exact h1), ih (by omega), if_pos h1, if_pos (by omega)]
    · rw [List.getElem?_append_right (by rw [wl_len l a c n (by omega)]; omega), wl_len l a c n (by omega)]
      by_cases h2 : i = n
      · subst h2
        have : i < l.length := by omega
        simp [this]
      · rw [if_neg (by omega)]
        exact List.getElem?_eq_none (by simp; omega)
theorem wl_pr (l : List Tc.It) (k : Nat) (c : ByteArray) : pr (wl l k c l.length) = putAt (pr l) k c := by
  apply List.ext_getElem?
  intro i
  rw [pr_get, put_get, pr_get, wl_get l k c _ (Nat.le_refl _)]
  by_cases h : i < l.length
  · rw [if_pos h, List.getElem?_eq_getElem h]
    by_cases e : i = k
    · subst e; simp [wit]
    · have : ¬ (i : Int) = (k : Int) := by omega
      simp [wit, e, this]
  · rw [if_neg h, List.getElem?_eq_none (by omega)]
    simp
set_option maxRecDepth 100000 in
set_option maxHeartbeats 2000000 in
theorem with_any (w : World) (A : Option Addr) (cap : Nat) (l : List Tc.It) (at_ : Int) (client : ByteArray) (hS : SliceIs kItem w A l) (hl : l.length ≤ 20) (hc : client.size ≤ maxLen) :
    Calls Try.prog 42 #[.slice A l.length cap, .int .i64 at_, .string client] w fun e w' => (∃ A' c', e = .returned (.slice A' l.length c') ∧ SliceIs kItem w' A' (wl l at_ client l.length)) ∧ Below w.heap.size w w' := by
  have HS := Lib.hid hS
  clear hS
  generalize hP : (fun (e : Ending) (w' : World) => (∃ A' c', e = .returned (.slice A' l.length c') ∧ SliceIs kItem w' A' (wl l at_ client l.length)) ∧ Below w.heap.size w w') = PP
  have HPP := Lib.hid (show ∀ (v : Value) (w' : World), OwnIt w w' v (wl l at_ client l.length) → Below w.heap.size w w' → PP (.returned v) w' by
    intro v w' h hb
    rw [← hP]
    obtain ⟨A', c', rfl, hs⟩ := h.form hb
    rw [wl_len l at_ client _ (Nat.le_refl _)]
    exact ⟨⟨A', c', rfl, hs⟩, hb⟩)
  clear hP
  go_enter Try.func42, Try.ntmps42
  go_wp2
  go_loopw [7, 8] (fun v x wr => ∃ k : Nat, k ≤ l.length ∧ x = .int .i64 k ∧ Below w.heap.size w wr ∧ OwnIt w wr v (wl l at_ client k) ∧ Newer w v) (fun _ x _ => l.length - (intOf x).toNat)
  case atStart => exact ⟨0, by omega, rfl, Below.refl _ _, OwnIt.nil _ _, Newer.nil _⟩
  case round =>
    obtain ⟨k, hk, rfl, hB, hO, hN⟩ := hrel
    have HB := Lib.hid hB
    have HO := Lib.hid hO
    have HN := Lib.hid hN
    clear hO hN
    by_cases hlt : k < l.length
    · obtain ⟨x, hx⟩ : ∃ x, l[k]? = some x := ⟨_, List.getElem?_eq_getElem hlt⟩
      have HWS := Lib.hid (wl_succ (a := at_) (c := client) hx)
      have hwn := wl_len l at_ client k hk
      obtain ⟨b, off, hA, hb, ⟨c0, c1, c2, c3, c4, c5, c6, c7, c8, c9, c10, c11⟩, -, -, -⟩ := item_cells (HS.out.below hB) hx
      have HLED := Lib.hid (show Led w x by obtain ⟨_, _, _, _, _, h⟩ := item_cells HS.out hx; exact h)
      have HWN := Lib.hid hwn
      subst hA
      clear hx hB hb hwn
      by_cases hka : (k : Int) = at_
      · have HR := Lib.hid (show wl l at_ client (k + 1) = wl l at_ client k ++ [{ x with at_ := client }] by rw [HWS.out]; unfold wit; rw [if_pos hka])
        obtain ⟨w2, hw2⟩ : ∃ w2, w2 = wr.alloc (.cells ({ x with at_ := client } : Tc.It).vals.toArray 45) := ⟨_, rfl⟩
        have hcp : CpAt w2 wr.heap.size { x with at_ := client } := by rw [hw2]; exact CpAt.new wr _
        have hO2 := HO.out.below (w' := w2) (by rw [hw2]; exact alloc_below _ _)
        have hB2 : Below w.heap.size w w2 := by rw [hw2]; exact copy_below HB.out _
        have HW2 := Lib.hid hw2
        obtain ⟨v', w3, hr, ho', ht, hl'⟩ := hO2.snoc (by rw [HWN.out]; omega) { x with at_ := client } ⟨⟨HLED.out.1.1, hc⟩, HLED.out.2⟩
        have HN' := Lib.hid (HN.out.step hB2 hl')
        have HB' := Lib.hid (HN.out.below hB2 ht)
        have HO' := Lib.hid ho'
        have HRUN := Lib.hid hr
        have HCP := Lib.hid hcp
        unfold It.vals at HW2 HRUN
        have hka' : ((k : Int) == at_) = true := by simp [hka]
        clear hcp hO2 hB2 hw2 hr ho' ht hl' hka
        go_upto_region 8 with (fail)
        rw [← HW2.out]
        obtain ⟨f0, f1, f2, f3, f4, f5, f6, f7, f8, f9, f10, f11⟩ := HCP.out
        clear c0 c1 c2 c3 c4 c5 c6 c7 c8 c9 c10 c11 HW2 HCP
        go_wp2_with (at_builtin; refine wpList_append_eq rfl _ _ _ rfl rfl rfl HRUN.out ?_)
        go_roundw
        case rel => exact ⟨k + 1, by omega, by go_num, HB'.out, by rw [HR.out]; exact HO'.out, HN'.out⟩
        case measure => simp [intOf]; omega
      · have HR := Lib.hid (show wl l at_ client (k + 1) = wl l at_ client k ++ [x] by rw [HWS.out]; unfold wit; rw [if_neg hka])
        obtain ⟨w2, hw2⟩ : ∃ w2, w2 = wr.alloc (.cells x.vals.toArray 45) := ⟨_, rfl⟩
        have hcp : CpAt w2 wr.heap.size x := by rw [hw2]; exact CpAt.new wr _
        have hO2 := HO.out.below (w' := w2) (by rw [hw2]; exact alloc_below _ _)
        have hB2 : Below w.heap.size w w2 := by rw [hw2]; exact copy_below HB.out _
        have HW2 := Lib.hid hw2
        obtain ⟨v', w3, hr, ho', ht, hl'⟩ := hO2.snoc (by rw [HWN.out]; omega) x HLED.out
        have HN' := Lib.hid (HN.out.step hB2 hl')
        have HB' := Lib.hid (HN.out.below hB2 ht)
        have HO' := Lib.hid ho'
        have HRUN := Lib.hid hr
        have HCP := Lib.hid hcp
        unfold It.vals at HW2 HRUN
        have hka' : ((k : Int) == at_) = false := by simp [hka]
        clear hcp hO2 hB2 hw2 hr ho' ht hl' hka
        go_upto_region 8 with (fail)
        rw [← HW2.out]
        obtain ⟨f0, f1, f2, f3, f4, f5, f6, f7, f8, f9, f10, f11⟩ := HCP.out
        clear c0 c1 c2 c3 c4 c5 c6 c7 c8 c9 c10 c11 HW2 HCP
        go_wp2_with (at_builtin; refine wpList_append_eq rfl _ _ _ rfl rfl rfl HRUN.out ?_)
        go_roundw
        case rel => exact ⟨k + 1, by omega, by go_num, HB'.out, by rw [HR.out]; exact HO'.out, HN'.out⟩
        case measure => simp [intOf]; omega
    · obtain rfl : k = l.length := by omega
      have HE := Lib.hid (HPP.out _ _ HO.out HB.out)
      clear hB
      go_wp2
      exact HE.out
end Go.Proofs.Ytclhgnlhejohgaa.LaneW
