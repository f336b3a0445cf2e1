/- Queues: messages and properties read and copied; whether a message's time has come. -/
import Derived.Test.YtjcdkgdeoeboaaaProg
import Derived.Test.YtjcdkgdeoeboaaaApi
import Derived.Test.YtjcdkgdeoeboaaaOwn
import Derived.Test.YtjcdkgdeoeboaaaStr
import Derived.Test.YtjcdkgdeoeboaaaCls
import Derived.WalkSpells
import Derived.Lib.Hide
import Derived.Handy
set_option linter.unusedVariables false
set_option linter.unusedSimpArgs false
namespace Go.Proofs.Ytjcdkgdeoeboaaa.QuW
open Go.RowKit Go.Proofs.Ytjcdkgdeoeboaaa.Tc

theorem alloc_below (w : World) (o : Obj) : Below w.heap.size w (w.alloc o) := (Below.refl _ _).alloc (Nat.le_refl _) _
/-- Cells that are read from an address on. -/
def Rd (w : World) (A : Option Addr) (cs : List Value) : Prop := 0 < cs.length → ∃ b off, A = some ⟨b, off, none⟩ ∧ ∀ (j : Nat) (u : Value), cs[j]? = some u → w.cell? ⟨b, off + j, none⟩ = some u
theorem Rd.nil (w : World) (A : Option Addr) : Rd w A [] := fun h => absurd h (by simp)
theorem Rd.same {w w' : World} {A : Option Addr} {cs : List Value} (h : Rd w A cs) (hs : Same w w') : Rd w' A cs := by
  intro h0
  obtain ⟨b, off, hA, hc⟩ := h h0
  exact ⟨b, off, hA, fun j u hu => hs.cell (hc j u hu)⟩
theorem Rd.below {w w' : World} {A : Option Addr} {cs : List Value} (h : Rd w A cs) (hb : Below w.heap.size w w') : Rd w' A cs := h.same (Same.of_below hb)
/-- The block that is read stays. -/
theorem Rd.block {w w' : World} {A : Option Addr} {cs : List Value} (h : Rd w A cs) (hs : ∀ ad, A = some ad → 0 < cs.length → ad.block < w.heap.size → w'.heap[ad.block]? = w.heap[ad.block]?) : Rd w' A cs := by
  intro h0
  obtain ⟨b, off, hA, hc⟩ := h h0
  have hb : b < w.heap.size := by
    obtain ⟨u, hu⟩ : ∃ u, cs[0]? = some u := ⟨_, List.getElem?_eq_getElem h0⟩
    exact World.block_lt_of_cell? w ⟨b, off + 0, none⟩ (hc 0 u hu)
  exact ⟨b, off, hA, fun j u hu => (World.cell?_of_block (a := ⟨b, off + j, none⟩) (hs ⟨b, off, none⟩ hA h0 hb)).trans (hc j u hu)⟩
theorem Rd.none {w : World} {cs : List Value} (h : Rd w none cs) : cs = [] := by
  cases cs with
  | nil => rfl
  | cons c cs => obtain ⟨b, off, hA, _⟩ := h (by simp); cases hA
theorem rd_own {w : World} {e : TypeId} {size : Nat} {v : Value} {n : Nat} {xs : List Value} (h : w.ownsRow 0 e size v n xs) : ∃ A c, v = .slice A n c ∧ Rd w A xs := by
  rcases Nat.eq_zero_or_pos n with rfl | hn
  · obtain ⟨A, c, rfl⟩ := own_form h
    refine ⟨A, c, rfl, ?_⟩
    have : xs = [] := List.eq_nil_of_length_eq_zero (by rw [h.1]; simp)
    rw [this]
    exact Rd.nil _ _
  · obtain ⟨g, c, rfl, -, hc⟩ := own_cells h hn
    exact ⟨_, c, rfl, fun _ => ⟨g, 0, rfl, fun j u hu => by rw [Nat.zero_add]; exact hc j u hu⟩⟩
theorem msg_len (m : Mg) : (Mg.vals m).length = 9 := rfl
theorem prp_len (p : Prp) : (Prp.cells p).length = 4 := rfl
theorem rd_at {α : Type} {size : Nat} {vals : α → List Value} (hv : ∀ x, (vals x).length = size) (hs : 0 < size) {w : World} {A : Option Addr} {l : List α} (h : Rd w A (l.flatMap vals)) {k : Nat} {x : α} (hk : l[k]? = some x) :
    ∃ b off, A = some ⟨b, off, none⟩ ∧ ∀ j u, (vals x)[j]? = some u → w.cell? ⟨b, off + (k * size + j), none⟩ = some u := by
  have hlt := (List.getElem?_eq_some_iff.1 hk).1
  obtain ⟨b, off, hA, hc⟩ := h (by rw [fl_len hv]; exact Nat.mul_pos (by omega) hs)
  refine ⟨b, off, hA, fun j u hu => hc _ u ?_⟩
  have hj := (List.getElem?_eq_some_iff.1 hu).1
  rw [hv] at hj
  rw [fl_get hv l k j hj, hk]
  exact hu
theorem rd_prp {w : World} {A : Option Addr} {l : List Prp} (h : Rd w A (l.flatMap Prp.cells)) {k : Nat} {x : Prp} (hk : l[k]? = some x) :
    ∃ b off, A = some ⟨b, off, none⟩ ∧ w.cell? ⟨b, off + k * 4, none⟩ = some (.int .i64 x.id) ∧ w.cell? ⟨b, off + k * 4 + 1, none⟩ = some (.int .i64 x.n) ∧ w.cell? ⟨b, off + k * 4 + 2, none⟩ = some (.string x.s) ∧ w.cell? ⟨b, off + k * 4 + 3, none⟩ = some (.string x.v) := by
  obtain ⟨b, off, hA, hc⟩ := rd_at prp_len (by decide) h hk
  exact ⟨b, off, hA, hc 0 _ rfl, hc 1 _ rfl, hc 2 _ rfl, hc 3 _ rfl⟩
theorem rd_msg {w : World} {A : Option Addr} {l : List Mg} (h : Rd w A (l.flatMap Mg.vals)) {k : Nat} {x : Mg} (hk : l[k]? = some x) :
    ∃ b off, A = some ⟨b, off, none⟩ ∧ w.cell? ⟨b, off + k * 9, none⟩ = some (.string x.topic) ∧ w.cell? ⟨b, off + k * 9 + 1, none⟩ = some (.string x.payload) ∧ w.cell? ⟨b, off + k * 9 + 2, none⟩ = some (.int .i64 x.qos) ∧ w.cell? ⟨b, off + k * 9 + 3, none⟩ = some (.bool x.retain) ∧
      w.cell? ⟨b, off + k * 9 + 4, none⟩ = some (.slice x.pA x.props.length x.pc) ∧ w.cell? ⟨b, off + k * 9 + 5, none⟩ = some (.string x.from_) ∧ w.cell? ⟨b, off + k * 9 + 6, none⟩ = some (.int .i64 x.until_) ∧ w.cell? ⟨b, off + k * 9 + 7, none⟩ = some (.int .i64 x.seq) ∧ w.cell? ⟨b, off + k * 9 + 8, none⟩ = some (.string x.group) := by
  obtain ⟨b, off, hA, hc⟩ := rd_at msg_len (by decide) h hk
  exact ⟨b, off, hA, hc 0 _ rfl, hc 1 _ rfl, hc 2 _ rfl, hc 3 _ rfl, hc 4 _ rfl, hc 5 _ rfl, hc 6 _ rfl, hc 7 _ rfl, hc 8 _ rfl⟩
theorem rd_slice {w : World} {A : Option Addr} {l : List Prp} (h : SliceIs kProp w A l) : Rd w A (l.flatMap Prp.cells) := by
  intro h0
  rw [fl_len prp_len] at h0
  obtain ⟨b, off, hA, -, hc⟩ := h.at_ (by omega)
  refine ⟨b, off, hA, fun j u hu => ?_⟩
  have e1 : j = j / 4 * 4 + j % 4 := by omega
  rw [e1, fl_get prp_len l _ _ (by omega)] at hu
  cases hx : l[j / 4]? with
  | none => rw [hx] at hu; cases hu
  | some x =>
    rw [hx] at hu
    obtain ⟨cs, hr, hcell⟩ := hc _ x hx
    obtain ⟨rfl, _⟩ := (kProp_rel _ _ _).1 hr
    have := hcell _ u hu
    rw [cellsProp] at this
    rw [show off + j = off + j / 4 * 4 + j % 4 by omega]
    exact this
theorem prp_one (l : List Prp) : ∀ u ∈ l.flatMap Prp.cells, u.oneCell' = true := by
  intro u hu
  rw [List.mem_flatMap] at hu
  obtain ⟨x, _, hx⟩ := hu
  simp [Prp.cells] at hx
  rcases hx with rfl | rfl | rfl | rfl <;> rfl
theorem msg_one (l : List Mg) : ∀ u ∈ l.flatMap Mg.vals, u.oneCell' = true := by
  intro u hu
  rw [List.mem_flatMap] at hu
  obtain ⟨x, _, hx⟩ := hu
  simp [Mg.vals] at hx
  rcases hx with rfl | rfl | rfl | rfl | rfl | rfl | rfl | rfl | rfl <;> rfl
theorem info56 : (Try.prog.info? 56).map (fun i => (i.zero, i.size, i.bytes)) = some (some (.agg #[.int .i64 0, .int .i64 0, .string ByteArray.empty, .string ByteArray.empty]), 4, 48) := by kernel_rfl
theorem info24 : (Try.prog.info? 24).map (fun i => (i.zero, i.size, i.bytes)) = some (some (.agg #[.string ByteArray.empty, .string ByteArray.empty, .int .i64 0, .bool false, .slice none 0 0, .string ByteArray.empty, .int .i64 0, .int .i64 0, .string ByteArray.empty]), 9, 120) := by kernel_rfl
set_option maxRecDepth 100000 in
set_option maxHeartbeats 2000000 in
theorem cloneP_any (w : World) (A : Option Addr) (cap : Nat) (l : List Prp) (hS : Rd w A (l.flatMap Prp.cells)) (hl : l.length < 1000000) :
    Calls Try.prog 28 #[.slice A l.length cap] w fun e w' => (∃ v, e = .returned v ∧ w'.ownsRow 0 56 4 v l.length (l.flatMap Prp.cells) ∧ ∀ g, v.ownBlock = some g → w.heap.size ≤ g) ∧ Below w.heap.size w w' := by
  generalize hP : (fun (e : Ending) (w' : World) => (∃ v, e = .returned v ∧ w'.ownsRow 0 56 4 v l.length (l.flatMap Prp.cells) ∧ ∀ g, v.ownBlock = some g → w.heap.size ≤ g) ∧ Below w.heap.size w w') = PP
  have HPP := Lib.hid (show ∀ (v : Value) (w' : World), w'.ownsRow 0 56 4 v l.length (l.flatMap Prp.cells) → (∀ g, v.ownBlock = some g → w.heap.size ≤ g) → Below w.heap.size w w' → PP (.returned v) w' by
    intro v w' h hg hb
    rw [← hP]
    exact ⟨⟨v, rfl, h, hg⟩, hb⟩)
  clear hP
  have heq := fun w => Lib.run_eql_slice_nil (P := Try.prog) w 22 56 A l.length cap 0 0 Try.underlying22
  cases A with
  | none =>
    have h0 : l = [] := by
      have h1 := hS.none
      have h2 := fl_len prp_len l
      rw [h1] at h2
      exact List.eq_nil_of_length_eq_zero (by simp at h2; omega)
    subst h0
    have HE := Lib.hid (HPP.out _ w (own_nil w 56 4) (by intro g hg; simp [Value.ownBlock] at hg) (Below.refl _ _))
    clear hS
    simp only [Option.isNone_none, List.length_nil] at heq
    go_enter Try.func28, Try.ntmps28
    go_wp2
    exact HE.out
  | some a =>
    simp only [Option.isNone_some] at heq
    obtain ⟨i0, hi, hz0, hz1, hz2⟩ := info_parts info56
    have hb := alloc_below w (.cells #[] 56)
    have hown : (w.alloc (.cells #[] 56)).ownsRow 0 56 4 (.slice (some ⟨w.heap.size, 0, none⟩) 0 0) 0 [] := by simpa using World.ownsRow_lit (base := 0) (e := 56) (size := 4) w #[] 0 (Nat.zero_le _) (Nat.zero_le _) rfl
    have hS2 := hS.below hb
    obtain ⟨v', w', hr, ho, ht, hloc⟩ := append_list (P := Try.prog) (ty := 22) Try.underlying22 hi hz0 hz1 hz2 rfl (by decide) hown (some a) l.length cap (l.flatMap Prp.cells) (fl_len prp_len l) (fun hn => by
      obtain ⟨b, off, hA, hc⟩ := hS2 (by rw [fl_len prp_len]; omega)
      exact ⟨_, hA, fun j u hu => by rw [add_plain]; exact hc j u hu⟩) (prp_one l) (by unfold maxLen; omega) (by omega)
    have hnew : ∀ g, v'.ownBlock = some g → w.heap.size ≤ g := by
      intro g hg
      rcases hloc g hg with h | h
      · have : w.heap.size = g := by simpa [Value.ownBlock] using h
        omega
      · have := hb.size
        omega
    have hbel : Below w.heap.size w w' := hb.trans (ht.below (by simp) (by intro i hi; have : i = w.heap.size := by simpa [Value.ownBlock] using hi
                                                                           omega))
    have HE := Lib.hid (HPP.out _ w' (by simpa using ho) hnew hbel)
    have HRUN := Lib.hid hr
    clear hS hi hz0 hz1 hz2 hb hown hS2 hr ho ht hloc hbel hnew
    go_enter Try.func28, Try.ntmps28
    go_wp2_with (at_builtin; refine wpList_append_eq rfl _ _ _ rfl rfl rfl HRUN.out ?_)
    exact HE.out
set_option maxRecDepth 100000 in
set_option maxHeartbeats 2000000 in
theorem cloneM_any (w : World) (A : Option Addr) (cap : Nat) (l : List Mg) (hS : Rd w A (l.flatMap Mg.vals)) (hl : l.length < 1000000) :
    Calls Try.prog 34 #[.slice A l.length cap] w fun e w' => (∃ v, e = .returned v ∧ w'.ownsRow 0 24 9 v l.length (l.flatMap Mg.vals) ∧ ∀ g, v.ownBlock = some g → w.heap.size ≤ g) ∧ Below w.heap.size w w' := by
  generalize hP : (fun (e : Ending) (w' : World) => (∃ v, e = .returned v ∧ w'.ownsRow 0 24 9 v l.length (l.flatMap Mg.vals) ∧ ∀ g, v.ownBlock = some g → w.heap.size ≤ g) ∧ Below w.heap.size w w') = PP
  have HPP := Lib.hid (show ∀ (v : Value) (w' : World), w'.ownsRow 0 24 9 v l.length (l.flatMap Mg.vals) → (∀ g, v.ownBlock = some g → w.heap.size ≤ g) → Below w.heap.size w w' → PP (.returned v) w' by
    intro v w' h hg hb
    rw [← hP]
    exact ⟨⟨v, rfl, h, hg⟩, hb⟩)
  clear hP
  have heq := fun w => Lib.run_eql_slice_nil (P := Try.prog) w 31 24 A l.length cap 0 0 Try.underlying31
  cases A with
  | none =>
    have h0 : l = [] := by
      have h1 := hS.none
      have h2 := fl_len msg_len l
      rw [h1] at h2
      exact List.eq_nil_of_length_eq_zero (by simp at h2; omega)
    subst h0
    have HE := Lib.hid (HPP.out _ w (own_nil w 24 9) (by intro g hg; simp [Value.ownBlock] at hg) (Below.refl _ _))
    clear hS
    simp only [Option.isNone_none, List.length_nil] at heq
    go_enter Try.func34, Try.ntmps34
    go_wp2
    exact HE.out
  | some a =>
    simp only [Option.isNone_some] at heq
    obtain ⟨i0, hi, hz0, hz1, hz2⟩ := info_parts info24
    have hb := alloc_below w (.cells #[] 24)
    have hown : (w.alloc (.cells #[] 24)).ownsRow 0 24 9 (.slice (some ⟨w.heap.size, 0, none⟩) 0 0) 0 [] := by simpa using World.ownsRow_lit (base := 0) (e := 24) (size := 9) w #[] 0 (Nat.zero_le _) (Nat.zero_le _) rfl
    have hS2 := hS.below hb
    obtain ⟨v', w', hr, ho, ht, hloc⟩ := append_list (P := Try.prog) (ty := 31) Try.underlying31 hi hz0 hz1 hz2 rfl (by decide) hown (some a) l.length cap (l.flatMap Mg.vals) (fl_len msg_len l) (fun hn => by
      obtain ⟨b, off, hA, hc⟩ := hS2 (by rw [fl_len msg_len]; omega)
      exact ⟨_, hA, fun j u hu => by rw [add_plain]; exact hc j u hu⟩) (msg_one l) (by unfold maxLen; omega) (by omega)
    have hnew : ∀ g, v'.ownBlock = some g → w.heap.size ≤ g := by
      intro g hg
      rcases hloc g hg with h | h
      · have : w.heap.size = g := by simpa [Value.ownBlock] using h
        omega
      · have := hb.size
        omega
    have hbel : Below w.heap.size w w' := hb.trans (ht.below (by simp) (by intro i hi; have : i = w.heap.size := by simpa [Value.ownBlock] using hi
                                                                           omega))
    have HE := Lib.hid (HPP.out _ w' (by simpa using ho) hnew hbel)
    have HRUN := Lib.hid hr
    clear hS hi hz0 hz1 hz2 hb hown hS2 hr ho ht hloc hbel hnew
    go_enter Try.func34, Try.ntmps34
    go_wp2_with (at_builtin; refine wpList_append_eq rfl _ _ _ rfl rfl rfl HRUN.out ?_)
    exact HE.out
/-- Has its time come? -/
def come (m : Mg) (now : Int) : Bool := decide (0 < m.until_) && decide (m.until_ ≤ now)
theorem come_any (m : Mg) (now : Int) (w : World) : Calls Try.prog 27 #[m.val, .int .i64 now] w fun e w' => e = .returned (.bool (come m now)) ∧ Below w.heap.size w w' := by
  have HB := Lib.hid (alloc_below w (.cells m.vals.toArray 24))
  have HR := Lib.hid (show come m now = (decide (0 < m.until_) && decide (m.until_ ≤ now)) from rfl)
  unfold Mg.vals at HB
  unfold Mg.val
  generalize come m now = r at *
  by_cases h1 : 0 < m.until_
  · by_cases h2 : m.until_ ≤ now
    · rw [decide_eq_true h1, decide_eq_true h2] at HR
      go_enter Try.func27, Try.ntmps27
      go_wp2
      go_ret
      exact ⟨by rw [HR.out]; rfl, HB.out⟩
    · rw [decide_eq_true h1, decide_eq_false h2] at HR
      go_enter Try.func27, Try.ntmps27
      go_wp2
      go_ret
      exact ⟨by rw [HR.out]; rfl, HB.out⟩
  · rw [decide_eq_false h1] at HR
    go_enter Try.func27, Try.ntmps27
    go_wp2
    go_ret
    exact ⟨by rw [HR.out]; rfl, HB.out⟩
theorem rcome_any (m : Mg) (now : Int) (w : World) : Calls Try.prog 30 #[m.val, .int .i64 now] w fun e w' => e = .returned (.bool (come m now)) ∧ Below w.heap.size w w' := by
  have HB := Lib.hid (alloc_below w (.cells m.vals.toArray 24))
  have HR := Lib.hid (show come m now = (decide (0 < m.until_) && decide (m.until_ ≤ now)) from rfl)
  unfold Mg.vals at HB
  unfold Mg.val
  generalize come m now = r at *
  by_cases h1 : 0 < m.until_
  · by_cases h2 : m.until_ ≤ now
    · rw [decide_eq_true h1, decide_eq_true h2] at HR
      go_enter Try.func30, Try.ntmps30
      go_wp2
      go_ret
      exact ⟨by rw [HR.out]; rfl, HB.out⟩
    · rw [decide_eq_true h1, decide_eq_false h2] at HR
      go_enter Try.func30, Try.ntmps30
      go_wp2
      go_ret
      exact ⟨by rw [HR.out]; rfl, HB.out⟩
  · rw [decide_eq_false h1] at HR
    go_enter Try.func30, Try.ntmps30
    go_wp2
    go_ret
    exact ⟨by rw [HR.out]; rfl, HB.out⟩
end Go.Proofs.Ytjcdkgdeoeboaaa.QuW
