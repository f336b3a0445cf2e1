/- Lanes: the functions that ask with whom a key is, and whether an item may go. -/
import Derived.Test.YtclhgnlhejohgaaItem
import Derived.Test.YtclhgnlhejohgaaCls
import Derived.Test.YtclhgnlhejohgaaStr
import Derived.Test.YtclhgnlhejohgaaLanePure
import Derived.WalkKit
import Derived.Deep.LoopGhost
import Derived.Lib.Hide
import Derived.Handy
import Derived.Deep.RegionWith
import Derived.Deep.Cut
import Derived.Deep.CutBlock
import Derived.Deep.DeepCutAuto
set_option linter.unusedVariables false
set_option linter.unusedSimpArgs false
namespace Go.Proofs.Ytclhgnlhejohgaa.LaneW
open Go.RowKit Go.Proofs.Ytclhgnlhejohgaa.Tc Go.Proofs.Ytclhgnlhejohgaa.LaneP

/-- What lanes see of an item. -/
def pr (l : List Tc.It) : List LaneP.It := l.map fun x => (x.msg.topic, x.at_)
theorem pr_get (l : List Tc.It) (k : Nat) : (pr l)[k]? = (l[k]?).map fun x => (x.msg.topic, x.at_) := by simp [pr]
theorem pr_len (l : List Tc.It) : (pr l).length = l.length := by simp [pr]
theorem alloc_below (w : World) (o : Obj) : Below w.heap.size w (w.alloc o) := (Below.refl _ _).alloc (Nat.le_refl _) _
theorem setnew_below {w : World} (o : Obj) (p : Addr) (hp : p.block = w.heap.size) (u : Value) : Below w.heap.size w ((w.alloc o).setCell p u) := (alloc_below w o).setCell (by omega) u

theorem key_any (m : Mg) (w : World) : Calls Try.prog 34 #[m.val] w fun e w' => e = .returned (.string m.topic) ∧ Below w.heap.size w w' := by
  have hb := alloc_below w (.cells m.vals.toArray 43)
  have HB := Lib.hid hb
  clear hb
  unfold Mg.val
  go_enter Try.func34, Try.ntmps34
  go_wp2
  go_ret
  exact ⟨rfl, HB.out⟩
/-- Does an item wait? -/
def wts (x : Tc.It) : Bool := decide (x.at_ = ByteArray.empty)
theorem wts_eq (s : ByteArray) : (s.toList == []) = decide (s = ByteArray.empty) := by
  by_cases h : s = ByteArray.empty
  · subst h; rw [ByteArray.toList_eq]; rfl
  · rw [(ne_empty h).2]; simp [h]
theorem wts_emp (s : ByteArray) : s.toList.isEmpty = decide (s = ByteArray.empty) := by
  by_cases h : s = ByteArray.empty
  · subst h; rw [ByteArray.toList_eq]; rfl
  · rw [(ne_empty h).1]; simp [h]
theorem waits_any (x : Tc.It) (w : World) : Calls Try.prog 81 #[x.val] w fun e w' => e = .returned (.bool (wts x)) ∧ Below w.heap.size w w' := by
  have hb := alloc_below w (.cells x.vals.toArray 45)
  have HB := Lib.hid hb
  clear hb
  unfold It.val
  go_enter Try.func81, Try.ntmps81
  go_wp2
  go_ret
  exact ⟨ret_bool (wts_emp _), HB.out⟩

def ownP (l : List LaneP.It) (key : ByteArray) : ByteArray × Bool := match owner l key with | some s => (s, true) | none => (ByteArray.empty, false)
def isOwn (x : LaneP.It) (key : ByteArray) : Bool := decide (x.1 = key) && !decide (x.2 = No)
theorem own_at {l : List LaneP.It} {key : ByteArray} {k : Nat} {x : LaneP.It} (hk : l[k]? = some x) (h0 : ∀ (j : Nat) (y : LaneP.It), j < k → l[j]? = some y → isOwn y key = false) (h1 : isOwn x key = true) : ownP l key = (x.2, true) := by
  have hlt := (List.getElem?_eq_some_iff.1 hk).1
  have hx := (List.getElem?_eq_some_iff.1 hk).2
  have : l.find? (fun x => decide (x.1 = key) && !decide (x.2 = No)) = some x := by
    rw [List.find?_eq_some_iff_getElem]
    refine ⟨h1, k, hlt, hx, fun j hj => ?_⟩
    have := h0 j _ hj (List.getElem?_eq_getElem (by omega))
    unfold isOwn at this
    rw [this]; rfl
  unfold ownP owner
  rw [this]; rfl
theorem own_end {l : List LaneP.It} {key : ByteArray} (h0 : ∀ (j : Nat) (y : LaneP.It), l[j]? = some y → isOwn y key = false) : ownP l key = (ByteArray.empty, false) := by
  have : l.find? (fun x => decide (x.1 = key) && !decide (x.2 = No)) = none := by
    rw [List.find?_eq_none]
    intro y hy
    obtain ⟨j, hj, rfl⟩ := List.getElem_of_mem hy
    have := h0 j _ (List.getElem?_eq_getElem hj)
    unfold isOwn at this
    rw [this]; simp
  unfold ownP owner
  rw [this]; rfl
theorem isOwn_of {x : LaneP.It} {key : ByteArray} {b c : Bool} (h1 : decide (x.1 = key) = b) (h2 : decide (x.2 = No) = c) : isOwn x key = (b && !c) := by unfold isOwn; rw [h1, h2]
/-- The world behind an item's copy. -/
theorem copy_below {w wr : World} (h : Below w.heap.size w wr) (o : Obj) : Below w.heap.size w (wr.alloc o) := then_below h (alloc_below wr o)
set_option maxRecDepth 100000 in
set_option maxHeartbeats 4000000 in
theorem owner_any (w : World) (A : Option Addr) (cap : Nat) (l : List Tc.It) (key : ByteArray) (hS : SliceIs kItem w A l) :
    Calls Try.prog 32 #[.slice A l.length cap, .string key] w fun e w' => e = .returned (.tuple #[.string (ownP (pr l) key).1, .bool (ownP (pr l) key).2]) ∧ Below w.heap.size w w' := by
  have hlen := hS.len
  unfold maxLen at hlen
  have HS := Lib.hid hS
  clear hS
  have hat := fun k x => @own_at (pr l) key k x
  have hend := @own_end (pr l) key
  have HAT := Lib.hid hat
  have HEND := Lib.hid hend
  clear hat hend
  go_enter Try.func32, Try.ntmps32
  go_wp2
  go_loopw [10] (fun x wr => ∃ k : Nat, k ≤ l.length ∧ x = .int .i64 k ∧ Below w.heap.size w wr ∧ ∀ j y, j < k → (pr l)[j]? = some y → isOwn y key = false) (fun x _ => l.length - (intOf x).toNat)
  case atStart => exact ⟨0, by omega, rfl, Below.refl _ _, by intro j y h; omega⟩
  case round =>
    obtain ⟨k, hk, rfl, hB, h0⟩ := hrel
    have H0 := Lib.hid h0
    have HB := Lib.hid hB
    clear h0
    by_cases hlt : k < l.length
    · obtain ⟨x, hx⟩ : ∃ x, l[k]? = some x := ⟨_, List.getElem?_eq_getElem hlt⟩
      obtain ⟨b, off, rfl, hb, ⟨c0, c1, c2, c3, c4, c5, c6, c7, c8, c9, c10, c11⟩, -, -, -⟩ := item_cells (HS.out.below hB) hx
      have hp : (pr l)[k]? = some (x.msg.topic, x.at_) := by rw [pr_get, hx]; rfl
      have HP := Lib.hid hp
      have hnew : ∀ v, decide (x.msg.topic = key) = v ∨ True → True := fun _ _ => trivial
      have hnext : isOwn (x.msg.topic, x.at_) key = false → ∀ j y, j < k + 1 → (pr l)[j]? = some y → isOwn y key = false := by
        intro hi j y hj hy
        by_cases e : j = k
        · subst e
          rw [HP.out] at hy
          injection hy with hy
          subst hy; exact hi
        · exact H0.out j y (by omega) hy
      have HN := Lib.hid hnext
      have HK := Lib.hid (key_any x.msg (wr.alloc (.cells x.vals.toArray 45)))
      have HCP := Lib.hid (CpAt.new wr x)
      have HBA := Lib.hid (copy_below hB (.cells x.vals.toArray 45))
      have HW := Lib.hid (fun w1 => waits_any x w1)
      have HIO := Lib.hid (fun b c => @isOwn_of (x.msg.topic, x.at_) key b c)
      have HATK := Lib.hid (HAT.out k _ HP.out H0.out)
      unfold Mg.val at HK
      unfold It.vals at HK
      unfold It.val at HW
      clear hx hp hnext hB hnew hb
      go_wp2_with fail
      refine HK.out.mono ?_
      rintro e w1 ⟨rfl, hb⟩
      obtain ⟨e0, e1, e2, e3, e4, e5, e6, e7, e8, e9, e10, e11⟩ := HCP.out.below hb
      have HB1 := Lib.hid (then_below HBA.out hb)
      clear c0 c1 c2 c3 c4 c5 c6 c7 c8 c9 c10 c11 hb HK HCP HBA HB
      by_cases ht : x.msg.topic = key
      · have t1 := str_eq ht
        have HT := Lib.hid (show decide ((x.msg.topic, x.at_).1 = key) = true by simp [ht])
        have hwt : decide ((x.msg.topic, x.at_).2 = No) = wts x := rfl
        have HIW := Lib.hid (HIO.out _ _ HT.out hwt)
        clear hwt ht
        cases hw : wts x with
        | true =>
          rw [hw] at HIW
          have HW1 := Lib.hid (HW.out w1)
          rw [hw] at HW1
          have HN1 := Lib.hid (HN.out (by rw [HIW.out]; rfl))
          clear hw
          go_wp2_with fail
          refine HW1.out.mono ?_
          rintro e w2 ⟨rfl, hb⟩
          have HB2 := Lib.hid (then_below HB1.out hb)
          clear hb
          go_wp2_with fail
          go_roundw
          case rel => exact ⟨k + 1, by omega, by go_num, HB2.out, HN1.out⟩
          case measure => simp [intOf]; omega
        | false =>
          rw [hw] at HIW
          have HW1 := Lib.hid (HW.out w1)
          rw [hw] at HW1
          have HE := Lib.hid (HATK.out (by rw [HIW.out]; rfl))
          clear hw
          go_wp2_with fail
          refine HW1.out.mono ?_
          rintro e w2 ⟨rfl, hb⟩
          have HB2 := Lib.hid (then_below HB1.out hb)
          have f9 := (Same.of_below hb).cell e9
          clear hb
          go_wp2_with fail
          go_ret2
          exact ⟨by rw [HE.out]; rfl, HB2.out⟩
      · have t1 := str_ne ht
        have HN1 := Lib.hid (HN.out (by rw [HIO.out false _ (by simp [ht]) rfl]; rfl))
        clear ht
        go_wp2_with fail
        go_roundw
        case rel => exact ⟨k + 1, by omega, by go_num, HB1.out, HN1.out⟩
        case measure => simp [intOf]; omega
    · obtain rfl : k = l.length := by omega
      have HE := Lib.hid (HEND.out (fun j y hy => H0.out j y (by have := (List.getElem?_eq_some_iff.1 hy).1; rw [pr_len] at this; exact this) hy))
      clear hB
      go_wp2
      go_ret2
      exact ⟨by rw [HE.out]; rfl, HB.out⟩
end Go.Proofs.Ytclhgnlhejohgaa.LaneW
