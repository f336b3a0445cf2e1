/- Members: found, cloned, counted. -/
import Derived.Test.YtclhgnlhejohgaaProg
import Derived.Test.YtclhgnlhejohgaaPickSt
import Derived.Test.YtclhgnlhejohgaaOwn
import Derived.Test.YtclhgnlhejohgaaClsTail
import Derived.Test.YtclhgnlhejohgaaMemPure
import Derived.WalkSpells
set_option linter.unusedVariables false
set_option linter.unusedSimpArgs false
namespace Go.Proofs.Ytclhgnlhejohgaa.MemW
open Go.RowKit Go.Proofs.Ytclhgnlhejohgaa.Tc Go.Proofs.Ytclhgnlhejohgaa.MemP
open Go.Proofs.Ytclhgnlhejohgaa.PickW (OwnS Newer kS kI cells9 str_cell strs_new alloc_below)

def vals (m : Mem) : List Value := [.string m.client, .int .i64 m.since, .int .i64 m.qos, .bool m.online]
theorem vals_len (m : Mem) : (vals m).length = 4 := rfl
def val (m : Mem) : Value := .agg #[.string m.client, .int .i64 m.since, .int .i64 m.qos, .bool m.online]
def wf (m : Mem) : Prop := m.client.size ≤ maxLen ∧ (Lit.int .i64 m.since).wf = true ∧ (Lit.int .i64 m.qos).wf = true
noncomputable def kB : Kd Try.prog 4 Bool := kBool Try.underlying4 (by kernel_rfl)
set_option maxRecDepth 100000 in
noncomputable def kMem0 : Kd Try.prog 66 (ByteArray × Int × Int × Bool) := kStruct Try.underlying66 rfl (fCons rfl kS (fCons rfl kI (fCons rfl kI (fOne rfl kB)))) (by kernel_rfl)
noncomputable def kMem : Kd Try.prog 66 Mem := kMap kMem0 (fun x => ⟨x.1, x.2.1, x.2.2.1, x.2.2.2⟩) (fun m => (m.client, m.since, m.qos, m.online)) (fun _ => rfl)
theorem kMem_rel (w : World) (m : Mem) (cs : List Value) : kMem.rel w m cs ↔ cs = vals m ∧ wf m := by
  constructor
  · rintro ⟨c0, cr, rfl, ⟨rfl, h0⟩, ⟨c1, cr, rfl, ⟨rfl, h1⟩, ⟨c2, cr, rfl, ⟨rfl, h2⟩, rfl⟩⟩⟩
    exact ⟨rfl, h0, h1, h2⟩
  · rintro ⟨rfl, h0, h1, h2⟩
    exact ⟨[_], _, rfl, ⟨rfl, h0⟩, [_], _, rfl, ⟨rfl, h1⟩, [_], _, rfl, ⟨rfl, h2⟩, rfl⟩
theorem cells66 : Try.prog.cellsOf 66 = 4 := by kernel_rfl
theorem mem_cells {w : World} {A : Option Addr} {l : List Mem} (h : SliceIs kMem w A l) {k : Nat} {x : Mem} (hk : l[k]? = some x) :
    ∃ b off, A = some ⟨b, off, none⟩ ∧ b < w.heap.size ∧ w.cell? ⟨b, off + k * 4, none⟩ = some (.string x.client) ∧ w.cell? ⟨b, off + k * 4 + 1, none⟩ = some (.int .i64 x.since) ∧ w.cell? ⟨b, off + k * 4 + 2, none⟩ = some (.int .i64 x.qos) ∧
      w.cell? ⟨b, off + k * 4 + 3, none⟩ = some (.bool x.online) ∧ wf x := by
  have hlt := (List.getElem?_eq_some_iff.1 hk).1
  obtain ⟨b, off, hA, hb, hc⟩ := h.at_ (by omega)
  obtain ⟨cs, hr, hcell⟩ := hc k x hk
  obtain ⟨rfl, hw⟩ := (kMem_rel _ _ _).1 hr
  rw [cells66] at hcell
  exact ⟨b, off, hA, hb, hcell 0 _ rfl, hcell 1 _ rfl, hcell 2 _ rfl, hcell 3 _ rfl, hw⟩
theorem info66 : (Try.prog.info? 66).map (fun i => (i.zero, i.size, i.bytes)) = some (some (.agg #[.string ByteArray.empty, .int .i64 0, .int .i64 0, .bool false]), 4, 40) := by kernel_rfl
/-- Members in an array of the call's own. -/
structure Row (w : World) (v : Value) (l : List Mem) : Prop where
  own : w.ownsRow 0 66 4 v l.length (l.flatMap vals)
  ok : ∀ x ∈ l, wf x
theorem Row.nil (w : World) : Row w (.slice none 0 0) [] := ⟨own_nil w 66 4, by simp⟩
theorem Row.form {w : World} {v : Value} {l : List Mem} (h : Row w v l) : ∃ A c, v = .slice A l.length c ∧ SliceIs kMem w A l := by
  obtain ⟨A, c, rfl⟩ := own_form h.own
  refine ⟨A, c, rfl, ⟨own_le h.own, fun hn => ?_⟩⟩
  obtain ⟨g, c', hv, hf, hc⟩ := own_cells h.own hn
  injection hv with hA
  subst hA
  refine ⟨g, 0, rfl, own_lt h.own (g := g) rfl, fun i x hi => ⟨vals x, (kMem_rel _ _ _).2 ⟨rfl, h.ok x (List.mem_of_getElem? hi)⟩, fun j u hu => ?_⟩⟩
  rw [cells66, Nat.zero_add]
  refine hc _ u ?_
  have hj : j < 4 := (List.getElem?_eq_some_iff.1 hu).1
  rw [fl_get vals_len l i j hj, hi]
  exact hu
theorem Row.kept {S : List Nat} {w w' : World} {v : Value} {l : List Mem} (h : Row w v l) (ht : Tch S w w') (hs : ∀ g, v.ownBlock = some g → g ∉ S) : Row w' v l := ⟨own_kept h.own ht hs, h.ok⟩
/-- A member.Members: its struct's block, its members, its generation. -/
structure At (w : World) (s : Nat) (v : Value) (l : List Mem) (gen : Int) : Prop where
  st : w.heap[s]? = some (.cells #[v, .int .i64 gen] 57 (0, 0))
  row : Row w v l
theorem At.kept {S : List Nat} {w w' : World} {s : Nat} {v : Value} {l : List Mem} {gen : Int} (h : At w s v l gen) (ht : Tch S w w') (hs : s ∉ S) (hv : ∀ g, v.ownBlock = some g → g ∉ S) : At w' s v l gen :=
  ⟨(ht.block s (lt_of_block h.st) hs).trans h.st, h.row.kept ht hv⟩
theorem At.below {w w' : World} {s : Nat} {v : Value} {l : List Mem} {gen : Int} (h : At w s v l gen) (hb : Below w.heap.size w w') : At w' s v l gen := h.kept (Tch.of_below (S := []) hb) (by simp) (by simp)
theorem At.ne {w : World} {s : Nat} {v : Value} {l : List Mem} {gen : Int} (h : At w s v l gen) : ∀ g, v.ownBlock = some g → g ≠ s := own_type_ne h.row.own h.st (by decide)

/-! ### find -/
def fidx (l : List Mem) (c : ByteArray) : Int := match find l c with | some i => i | none => -1
theorem fidx_some {l : List Mem} {c : ByteArray} {i : Nat} (h : find l c = some i) : fidx l c = i := by unfold fidx; rw [h]
theorem fidx_none {l : List Mem} {c : ByteArray} (h : find l c = none) : fidx l c = -1 := by unfold fidx; rw [h]
theorem find_fn (m : Mem) (b : Nat) (c : ByteArray) (w : World) (hc : w.cell? ⟨b, 0, none⟩ = some (.string c)) :
    Calls Try.prog 103 #[val m, .pointer (some ⟨b, 0, none⟩)] w fun e w' => e = .returned (.bool (decide (m.client = c))) ∧ Below w.heap.size w w' := by
  have hb := alloc_below w (.cells (vals m).toArray 66)
  have HB := Lib.hid hb
  have hc2 := (Same.of_below hb).cell hc
  have HE := Lib.hid (str_eql m.client c)
  unfold vals at hc2
  clear hb hc
  unfold val
  go_enter Try.func103, Try.ntmps103
  go_wp2
  go_ret
  exact ⟨ret_bool HE.out, HB.out⟩
set_option maxRecDepth 100000 in
set_option maxHeartbeats 2000000 in
theorem indexf_any (b : Nat) (c : ByteArray) (w : World) (A : Option Addr) (cap : Nat) (l : List Mem) (hS : SliceIs kMem w A l) (hc : w.cell? ⟨b, 0, none⟩ = some (.string c)) :
    Calls Try.prog 102 #[.slice A l.length cap, .func (.func 103) #[] #[.pointer (some ⟨b, 0, none⟩)]] w fun e w' => e = .returned (.int .i64 (fidx l c)) ∧ Below w.heap.size w w' := by
  have hlen := hS.len
  unfold maxLen at hlen
  have HS := Lib.hid hS
  have HC := Lib.hid hc
  have hE := enters_of Try.func103 (by kernel_rfl) rfl
  clear hS hc
  go_enter Try.func102, Try.ntmps102
  go_wp2
  go_loopw [8] (fun x wr => ∃ k : Nat, k ≤ l.length ∧ x = .int .i64 k ∧ Below w.heap.size w wr ∧ ∀ (j : Nat) (y : Mem), j < k → l[j]? = some y → y.client ≠ c) (fun x _ => l.length - (intOf x).toNat)
  case atStart => exact ⟨0, by omega, rfl, Below.refl _ _, by intro j y h; omega⟩
  case round =>
    obtain ⟨k, hk, rfl, hB, hn⟩ := hrel
    have HB := Lib.hid hB
    have HN := Lib.hid hn
    clear hn
    by_cases hlt : k < l.length
    · obtain ⟨x, hx⟩ : ∃ x, l[k]? = some x := ⟨_, List.getElem?_eq_getElem hlt⟩
      obtain ⟨b', off, rfl, hb, c0, c1, c2, c3, -⟩ := mem_cells (HS.out.below hB) hx
      have HF := Lib.hid (find_fn x b c wr ((Same.of_below hB).cell HC.out))
      have HX := Lib.hid hx
      unfold val at HF
      clear hx hb hB
      by_cases e : x.client = c
      · rw [decide_eq_true e] at HF
        have HE := Lib.hid (fidx_some (find_at HX.out e HN.out))
        clear e
        go_wp2_with fail
        refine HF.out.mono ?_
        rintro e w2 ⟨rfl, hb⟩
        have HB2 := Lib.hid (then_below HB.out hb)
        clear hb
        go_wp2_with fail
        go_ret
        exact ⟨by rw [HE.out]; rfl, HB2.out⟩
      · rw [decide_eq_false e] at HF
        have HN1 := Lib.hid (show ∀ (j : Nat) (y : Mem), j < k + 1 → l[j]? = some y → y.client ≠ c by
          intro j y hj hy
          by_cases e2 : j = k
          · subst e2; have := HX.out; rw [hy] at this; injection this with this; rw [this]; exact e
          · exact HN.out j y (by omega) hy)
        clear e
        go_wp2_with fail
        refine HF.out.mono ?_
        rintro e w2 ⟨rfl, hb⟩
        have HB2 := Lib.hid (then_below HB.out hb)
        clear hb
        go_wp2_with fail
        go_roundw
        case rel => exact ⟨k + 1, by omega, by go_num, HB2.out, HN1.out⟩
        case measure => simp [intOf]; omega
    · obtain rfl : k = l.length := by omega
      have HE := Lib.hid (fidx_none (find_no (fun j y hy => HN.out j y (List.getElem?_eq_some_iff.1 hy).1 hy)))
      clear hB
      go_wp2
      go_ret
      exact ⟨by rw [HE.out]; rfl, HB.out⟩
set_option maxHeartbeats 2000000 in
theorem find_any (w : World) (s : Nat) (v : Value) (l : List Mem) (gen : Int) (h : At w s v l gen) (c : ByteArray) :
    Calls Try.prog 85 #[.pointer (some ⟨s, 0, none⟩), .string c] w fun e w' => e = .returned (.int .i64 (fidx l c)) ∧ Below w.heap.size w w' := by
  have hb := alloc_below w (.cells #[.string c] 9)
  have h2 := h.below hb
  have c0 : (w.alloc (.cells #[.string c] 9)).cell? ⟨s, 0, none⟩ = some v := cell_of h2.st rfl
  obtain ⟨A, cap, rfl, hS⟩ := h2.row.form
  have HI := Lib.hid (indexf_any w.heap.size c _ A cap l hS (cell_of (heap_alloc_new w _) rfl))
  have HB := Lib.hid hb
  clear h h2 hb hS
  go_enter Try.func85, Try.ntmps85
  go_wp2_with fail
  refine HI.out.mono ?_
  rintro e w2 ⟨rfl, hb⟩
  have HB2 := Lib.hid (then_below HB.out hb)
  clear hb
  go_wp2_with fail
  go_ret
  exact ⟨rfl, HB2.out⟩
theorem find_nil (w : World) (c : ByteArray) : Calls Try.prog 85 #[.pointer none, .string c] w fun e w' => e = .returned (.int .i64 (-1)) ∧ Below w.heap.size w w' := by
  have HB := Lib.hid (alloc_below w (.cells #[.string c] 9))
  go_enter Try.func85, Try.ntmps85
  go_wp2
  go_ret
  exact ⟨rfl, HB.out⟩
theorem gen_any (w : World) (s : Nat) (v : Value) (l : List Mem) (gen : Int) (h : At w s v l gen) : Calls Try.prog 56 #[.pointer (some ⟨s, 0, none⟩)] w fun e w' => e = .returned (.int .i64 gen) ∧ w = w' := by
  have c1 : w.cell? ⟨s, 1, none⟩ = some (.int .i64 gen) := cell_of h.st rfl
  clear h
  go_enter Try.func56, Try.ntmps56
  go_wp2
  go_ret
  exact ⟨rfl, rfl⟩
theorem gen_nil (w : World) : Calls Try.prog 56 #[.pointer none] w fun e w' => e = .returned (.int .i64 0) ∧ w = w' := by
  go_enter Try.func56, Try.ntmps56
  go_wp2
  go_ret
  exact ⟨rfl, rfl⟩
/-- A row that is read. -/
def Read (w : World) (n : Nat) (v : Value) (l : List Mem) : Prop := ∃ A c, v = .slice A n c ∧ l.length = n ∧ SliceIs kMem w A l
set_option maxRecDepth 100000 in
set_option maxHeartbeats 2000000 in
theorem clone_any (w : World) (A : Option Addr) (cap : Nat) (l : List Mem) (hS : SliceIs kMem w A l) (hl : l.length < 1000000) :
    Calls Try.prog 86 #[.slice A l.length cap] w fun e w' => (∃ v, e = .returned v ∧ Row w' v l) ∧ Below w.heap.size w w' := by
  generalize hP : (fun (e : Ending) (w' : World) => (∃ v, e = .returned v ∧ Row w' v l) ∧ Below w.heap.size w w') = PP
  have HPP := Lib.hid (show ∀ (v : Value) (w' : World), Row w' v l → Below w.heap.size w w' → PP (.returned v) w' by
    intro v w' h hb
    rw [← hP]
    exact ⟨⟨v, rfl, h⟩, hb⟩)
  clear hP
  have heq := fun w => Lib.run_eql_slice_nil (P := Try.prog) w 55 66 A l.length cap 0 0 Try.underlying55
  cases A with
  | none =>
    have h0 : l = [] := by
      rcases Nat.eq_zero_or_pos l.length with h | h
      · exact List.eq_nil_of_length_eq_zero h
      · obtain ⟨b, off, hA, _⟩ := hS.at_ h
        cases hA
    subst h0
    have HE := Lib.hid (HPP.out _ w (Row.nil w) (Below.refl _ _))
    clear hS
    simp only [Option.isNone_none, List.length_nil] at heq
    go_enter Try.func86, Try.ntmps86
    go_wp2
    exact HE.out
  | some a =>
    simp only [Option.isNone_some] at heq
    have hok : ∀ x ∈ l, wf x := by
      intro x hx
      obtain ⟨k, hk, rfl⟩ := List.getElem_of_mem hx
      obtain ⟨_, _, _, _, _, _, _, _, hw⟩ := mem_cells hS (List.getElem?_eq_getElem hk)
      exact hw
    obtain ⟨i0, hi, hz0, hz1, hz2⟩ := info_parts info66
    have hb := alloc_below w (.cells #[] 66)
    have hown : (w.alloc (.cells #[] 66)).ownsRow 0 66 4 (.slice (some ⟨w.heap.size, 0, none⟩) 0 0) 0 [] := by simpa using World.ownsRow_lit (base := 0) (e := 66) (size := 4) w #[] 0 (Nat.zero_le _) (Nat.zero_le _) rfl
    have hS2 := hS.below hb
    obtain ⟨v', w', hr, ho, ht, hloc⟩ := append_list (P := Try.prog) (ty := 55) Try.underlying55 hi hz0 hz1 hz2 rfl (by decide) hown (some a) l.length cap (l.flatMap vals) (fl_len vals_len l) (fun hn => by
      obtain ⟨b, off, hA, _, hc⟩ := hS2.at_ hn
      refine ⟨_, hA, fun j u hu => ?_⟩
      have hj := (List.getElem?_eq_some_iff.1 hu).1
      rw [fl_len vals_len] at hj
      have e1 : j = j / 4 * 4 + j % 4 := by omega
      rw [e1, fl_get vals_len l _ _ (by omega)] at hu
      cases hx : l[j / 4]? with
      | none => rw [hx] at hu; cases hu
      | some x =>
        rw [hx] at hu
        obtain ⟨cs, hr, hcell⟩ := hc _ x hx
        obtain ⟨rfl, _⟩ := (kMem_rel _ _ _).1 hr
        have := hcell _ u hu
        rw [cells66] at this
        rw [add_plain]
        rw [show off + j = off + j / 4 * 4 + j % 4 by omega]
        exact this) (by
      intro u hu
      rw [List.mem_flatMap] at hu
      obtain ⟨x, _, hx⟩ := hu
      simp [vals] at hx
      rcases hx with rfl | rfl | rfl | rfl <;> rfl) (by unfold maxLen; omega) (by omega)
    have hrow : Row w' v' l := ⟨by simpa using ho, hok⟩
    have hbel : Below w.heap.size w w' := hb.trans (ht.below (by simp) (by intro i hi; have : i = w.heap.size := by simpa [Value.ownBlock] using hi
                                                                           omega))
    have HE := Lib.hid (HPP.out _ w' hrow hbel)
    have HRUN := Lib.hid hr
    clear hS hok hi hz0 hz1 hz2 hb hown hS2 hr ho ht hloc hrow hbel
    go_enter Try.func86, Try.ntmps86
    go_wp2_with (at_builtin; refine wpList_append_eq rfl _ _ _ rfl rfl rfl HRUN.out ?_)
    exact HE.out
set_option maxRecDepth 100000 in
set_option maxHeartbeats 2000000 in
theorem all_any (w : World) (s : Nat) (v : Value) (l : List Mem) (gen : Int) (h : At w s v l gen) (hl : l.length < 1000000) :
    Calls Try.prog 50 #[.pointer (some ⟨s, 0, none⟩)] w fun e w' => (∃ v, e = .returned v ∧ Row w' v l) ∧ Below w.heap.size w w' := by
  generalize hP : (fun (e : Ending) (w' : World) => (∃ v, e = .returned v ∧ Row w' v l) ∧ Below w.heap.size w w') = PP
  have HPP := Lib.hid (show ∀ (v : Value) (w' : World), Row w' v l → Below w.heap.size w w' → PP (.returned v) w' by
    intro v w' h hb
    rw [← hP]
    exact ⟨⟨v, rfl, h⟩, hb⟩)
  clear hP
  have c0 : w.cell? ⟨s, 0, none⟩ = some v := cell_of h.st rfl
  obtain ⟨A, cap, rfl, hS⟩ := h.row.form
  have HC := Lib.hid (clone_any w A cap l hS hl)
  clear h hS
  go_enter Try.func50, Try.ntmps50
  go_wp2_with fail
  refine HC.out.mono ?_
  rintro e w2 ⟨⟨v', rfl, hr⟩, hb⟩
  have HE := Lib.hid (HPP.out _ w2 hr hb)
  obtain ⟨A', c', rfl, -⟩ := hr.form
  clear hb hr
  go_wp2_with fail
  exact HE.out
theorem all_nil (w : World) : Calls Try.prog 50 #[.pointer none] w fun e w' => e = .returned (.slice none 0 0) ∧ w = w' := by
  go_enter Try.func50, Try.ntmps50
  go_wp2
  go_ret
  exact ⟨rfl, rfl⟩
end Go.Proofs.Ytclhgnlhejohgaa.MemW
