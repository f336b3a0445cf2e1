/- Faults: made; their reason, their place. -/
import Derived.Test.YthpplbigmolnjaaDoorFltB
set_option linter.unusedVariables false
set_option linter.unusedSimpArgs false
namespace Go.Proofs.YthpplbigmolnjaaDoor.FltW
open Go.RowKit Go.Proofs.YthpplbigmolnjaaDoor.Tc

theorem alloc_below (w : World) (o : Obj) : Below w.heap.size w (w.alloc o) := (Below.refl _ _).alloc (Nat.le_refl _) _
/-- What errors.As reads of its own package. -/
def AsVar (w : World) : Prop := w.cell? ⟨7, 0, none⟩ = some (.iface 100 (.agg #[.pointer (some ⟨11, 24, none⟩)]))
theorem AsVar.below {w w' : World} (h : AsVar w) (hb : Below w.heap.size w w') : AsVar w' := (World.cell?_of_block (hb.block 7 (World.block_lt_of_cell? w _ h))).trans h
theorem as_any (e : Addr) (tb : Nat) (old : Value) (w : World) (hg : AsVar w) (hz : w.heap[tb]? = some (.cells #[old] 56 (0, 0))) :
    Calls Tryd.prog 34 #[.iface 56 (.pointer (some e)), .iface 60 (.pointer (some ⟨tb, 0, none⟩))] w fun ev w' => ev = .returned (.bool true) ∧ w'.cell? ⟨tb, 0, none⟩ = some (.pointer (some e)) ∧ Below tb w w' := by
  refine (as_hit e ⟨tb, 0, none⟩ old w hg (cell_of hz rfl) (free_of hz 0)).mono ?_
  rintro ev w' ⟨rfl, hw⟩
  have hlt := lt_of_block hz
  have b1 := alloc_below w (.cells #[.pointer (some ⟨tb, 0, none⟩)] 60)
  have b2 := b1.trans ((alloc_below (w.alloc (.cells #[.pointer (some ⟨tb, 0, none⟩)] 60)) (.cells #[.pointer (some ⟨11, 60, none⟩), .pointer (some ⟨w.heap.size, 0, none⟩), .int .u64 150] 89)).mono b1.size)
  have b3 := b2.trans ((alloc_below _ (.cells #[.pointer (some ⟨11, 60, none⟩), .pointer (some ⟨w.heap.size, 0, none⟩), .int .u64 150] 89)).mono b2.size)
  have b4 := b3.trans ((alloc_below _ (.cells #[.pointer (some e)] 56)).mono b3.size)
  have hz4 := (b4.block tb hlt).trans hz
  rw [hw]
  refine ⟨rfl, cell_of (set_of hz4 0 (.pointer (some e))) rfl, ?_⟩
  exact ((Tch.of_below (S := [tb]) b4).setCell (p := ⟨tb, 0, none⟩) (.inl (by simp)) _).below (Nat.le_of_lt hlt) (by simp)
theorem new_any (r a : Int) (T : TypeId) (v : Value) (w : World) : Calls Tryd.prog 11 #[.int .i64 r, .int .i64 a, .iface T v] w fun e w' => e = .returned (.iface 56 (.pointer (some ⟨w.heap.size, 0, none⟩))) ∧ w'.heap[w.heap.size]? = some (.cells #[.int .i64 r, .int .i64 a, .iface T v] 58 (0, 0)) ∧ Below w.heap.size w w' := by
  have HB := Lib.hid (alloc_below w (.cells #[.int .i64 r, .int .i64 a, .iface T v] 58))
  have HZ := Lib.hid (heap_alloc_new w (.cells #[.int .i64 r, .int .i64 a, .iface T v] 58))
  go_enter Tryd.func11, Tryd.ntmps11
  go_wp2
  go_ret
  exact ⟨rfl, HZ.out, HB.out⟩
theorem reason_any (b : Nat) (r a : Int) (e' : Value) (w : World) (hg : AsVar w) (hb : w.heap[b]? = some (.cells #[.int .i64 r, .int .i64 a, e'] 58 (0, 0))) :
    Calls Tryd.prog 15 #[.iface 56 (.pointer (some ⟨b, 0, none⟩))] w fun e w' => e = .returned (.int .i64 r) ∧ Below w.heap.size w w' := by
  have h0 := alloc_below w (.cells #[.pointer none] 56)
  have HA := Lib.hid (as_any ⟨b, 0, none⟩ w.heap.size _ _ (hg.below h0) (heap_alloc_new w (.cells #[.pointer none] 56)))
  have HB := Lib.hid hb
  have H0 := Lib.hid h0
  have hlt := lt_of_block hb
  clear h0 hb hg
  go_enter Tryd.func15, Tryd.ntmps15
  go_wp2_with fail
  refine HA.out.mono ?_
  rintro e w2 ⟨rfl, hc, hb2⟩
  have hblk := (hb2.block b hlt).trans ((H0.out.block b hlt).trans HB.out)
  have c0 : w2.cell? ⟨b, 0, none⟩ = some (.int .i64 r) := cell_of hblk rfl
  have HE := Lib.hid (H0.out.trans hb2)
  clear hblk hb2
  go_wp2_with fail
  go_ret
  exact ⟨rfl, HE.out⟩
theorem at_any (b : Nat) (r a : Int) (e' : Value) (w : World) (hg : AsVar w) (hb : w.heap[b]? = some (.cells #[.int .i64 r, .int .i64 a, e'] 58 (0, 0))) :
    Calls Tryd.prog 16 #[.iface 56 (.pointer (some ⟨b, 0, none⟩))] w fun e w' => e = .returned (.int .i64 a) ∧ Below w.heap.size w w' := by
  have h0 := alloc_below w (.cells #[.pointer none] 56)
  have HA := Lib.hid (as_any ⟨b, 0, none⟩ w.heap.size _ _ (hg.below h0) (heap_alloc_new w (.cells #[.pointer none] 56)))
  have HB := Lib.hid hb
  have H0 := Lib.hid h0
  have hlt := lt_of_block hb
  clear h0 hb hg
  go_enter Tryd.func16, Tryd.ntmps16
  go_wp2_with fail
  refine HA.out.mono ?_
  rintro e w2 ⟨rfl, hc, hb2⟩
  have hblk := (hb2.block b hlt).trans ((H0.out.block b hlt).trans HB.out)
  have c1 : w2.cell? ⟨b, 1, none⟩ = some (.int .i64 a) := cell_of hblk rfl
  have HE := Lib.hid (H0.out.trans hb2)
  clear hblk hb2
  go_wp2_with fail
  go_ret
  exact ⟨rfl, HE.out⟩
end Go.Proofs.YthpplbigmolnjaaDoor.FltW
