/- Items of a group's queue as data. -/
import Derived.Test.YtclhgnlhejohgaaApi
set_option linter.unusedVariables false
set_option linter.unusedSimpArgs false
namespace Go.Proofs.Ytclhgnlhejohgaa.Tc
open Go.RowKit

theorem cellsStr : Try.prog.cellsOf 9 = 1 := by kernel_rfl
noncomputable def kStrs : Kd Try.prog 26 (Option Addr × Nat × List ByteArray) := kHdr Try.underlying26 (by kernel_rfl) (by rw [cellsStr]; decide) aS
structure It where
  msg : Mg
  at_ : ByteArray
  bA : Option Addr
  bc : Nat
  behind : List ByteArray
  again : Bool
def It.wf (x : It) : Prop := x.msg.wf ∧ x.at_.size ≤ maxLen
/-- An item by value: flat. -/
def It.val (x : It) : Value := .agg #[.string x.msg.topic, .string x.msg.payload, .int .i64 x.msg.qos, .bool x.msg.retain, .slice x.msg.pA x.msg.props.length x.msg.pc, .string x.msg.from_, .int .i64 x.msg.until_, .int .i64 x.msg.seq, .string x.msg.group,
  .string x.at_, .slice x.bA x.behind.length x.bc, .bool x.again]
def It.vals (x : It) : List Value := [.string x.msg.topic, .string x.msg.payload, .int .i64 x.msg.qos, .bool x.msg.retain, .slice x.msg.pA x.msg.props.length x.msg.pc, .string x.msg.from_, .int .i64 x.msg.until_, .int .i64 x.msg.seq, .string x.msg.group,
  .string x.at_, .slice x.bA x.behind.length x.bc, .bool x.again]
set_option maxRecDepth 100000 in
noncomputable def kItem0 : Kd Try.prog 45 (Mg × ByteArray × (Option Addr × Nat × List ByteArray) × Bool) := kStruct Try.underlying45 rfl (fCons rfl kMsg (fCons rfl aS (fCons rfl kStrs (fOne rfl aB)))) (by kernel_rfl)
noncomputable def kItem : Kd Try.prog 45 It := kMap kItem0 (fun x => ⟨x.1, x.2.1, x.2.2.1.1, x.2.2.1.2.1, x.2.2.1.2.2, x.2.2.2⟩) (fun x => (x.msg, x.at_, (x.bA, x.bc, x.behind), x.again)) (fun _ => rfl)
theorem kItem_rel (w : World) (x : It) (cs : List Value) : kItem.rel w x cs ↔ cs = x.vals ∧ x.wf ∧ SliceIs kProp w x.msg.pA x.msg.props ∧ SliceIs aS w x.bA x.behind := by
  constructor
  · rintro ⟨c0, cr, rfl, h0, ⟨c1, cr, rfl, ⟨rfl, h1⟩, ⟨c2, cr, rfl, ⟨rfl, h2⟩, rfl⟩⟩⟩
    obtain ⟨rfl, hm, hp⟩ := (kMsg_rel _ _ _).1 h0
    exact ⟨rfl, ⟨hm, h1⟩, hp, h2⟩
  · rintro ⟨rfl, ⟨hm, h1⟩, hp, h2⟩
    exact ⟨x.msg.vals, _, rfl, (kMsg_rel _ _ _).2 ⟨rfl, hm, hp⟩, [_], _, rfl, ⟨rfl, h1⟩, [_], _, rfl, ⟨rfl, h2⟩, rfl⟩
theorem cellsItem : Try.prog.cellsOf 45 = 12 := by kernel_rfl
/-- An item's cells. -/
structure ItAt (w : World) (b o : Nat) (x : It) : Prop where
  c0 : w.cell? ⟨b, o, none⟩ = some (.string x.msg.topic)
  c1 : w.cell? ⟨b, o + 1, none⟩ = some (.string x.msg.payload)
  c2 : w.cell? ⟨b, o + 2, none⟩ = some (.int .i64 x.msg.qos)
  c3 : w.cell? ⟨b, o + 3, none⟩ = some (.bool x.msg.retain)
  c4 : w.cell? ⟨b, o + 4, none⟩ = some (.slice x.msg.pA x.msg.props.length x.msg.pc)
  c5 : w.cell? ⟨b, o + 5, none⟩ = some (.string x.msg.from_)
  c6 : w.cell? ⟨b, o + 6, none⟩ = some (.int .i64 x.msg.until_)
  c7 : w.cell? ⟨b, o + 7, none⟩ = some (.int .i64 x.msg.seq)
  c8 : w.cell? ⟨b, o + 8, none⟩ = some (.string x.msg.group)
  c9 : w.cell? ⟨b, o + 9, none⟩ = some (.string x.at_)
  c10 : w.cell? ⟨b, o + 10, none⟩ = some (.slice x.bA x.behind.length x.bc)
  c11 : w.cell? ⟨b, o + 11, none⟩ = some (.bool x.again)
theorem ItAt.below {w w' : World} {b o : Nat} {x : It} (h : ItAt w b o x) (hb : Below w.heap.size w w') : ItAt w' b o x := by
  have hs := Same.of_below hb
  exact ⟨hs.cell h.c0, hs.cell h.c1, hs.cell h.c2, hs.cell h.c3, hs.cell h.c4, hs.cell h.c5, hs.cell h.c6, hs.cell h.c7, hs.cell h.c8, hs.cell h.c9, hs.cell h.c10, hs.cell h.c11⟩
theorem item_cells {w : World} {A : Option Addr} {l : List It} (h : SliceIs kItem w A l) {k : Nat} {x : It} (hk : l[k]? = some x) :
    ∃ b off, A = some ⟨b, off, none⟩ ∧ b < w.heap.size ∧ ItAt w b (off + k * 12) x ∧ x.wf ∧ SliceIs kProp w x.msg.pA x.msg.props ∧ SliceIs aS w x.bA x.behind := by
  have hlt := (List.getElem?_eq_some_iff.1 hk).1
  obtain ⟨b, off, hA, hb, hc⟩ := h.at_ (by omega)
  obtain ⟨cs, hr, hcell⟩ := hc k x hk
  obtain ⟨rfl, hw, hp, hs⟩ := (kItem_rel _ _ _).1 hr
  rw [cellsItem] at hcell
  exact ⟨b, off, hA, hb, ⟨hcell 0 _ rfl, hcell 1 _ rfl, hcell 2 _ rfl, hcell 3 _ rfl, hcell 4 _ rfl, hcell 5 _ rfl, hcell 6 _ rfl, hcell 7 _ rfl, hcell 8 _ rfl, hcell 9 _ rfl, hcell 10 _ rfl, hcell 11 _ rfl⟩, hw, hp, hs⟩
/-- An item's copy, in a block of its own. -/
structure CpAt (w : World) (b : Nat) (x : It) : Prop where
  c0 : w.cell? ⟨b, 0, none⟩ = some (.string x.msg.topic)
  c1 : w.cell? ⟨b, 1, none⟩ = some (.string x.msg.payload)
  c2 : w.cell? ⟨b, 2, none⟩ = some (.int .i64 x.msg.qos)
  c3 : w.cell? ⟨b, 3, none⟩ = some (.bool x.msg.retain)
  c4 : w.cell? ⟨b, 4, none⟩ = some (.slice x.msg.pA x.msg.props.length x.msg.pc)
  c5 : w.cell? ⟨b, 5, none⟩ = some (.string x.msg.from_)
  c6 : w.cell? ⟨b, 6, none⟩ = some (.int .i64 x.msg.until_)
  c7 : w.cell? ⟨b, 7, none⟩ = some (.int .i64 x.msg.seq)
  c8 : w.cell? ⟨b, 8, none⟩ = some (.string x.msg.group)
  c9 : w.cell? ⟨b, 9, none⟩ = some (.string x.at_)
  c10 : w.cell? ⟨b, 10, none⟩ = some (.slice x.bA x.behind.length x.bc)
  c11 : w.cell? ⟨b, 11, none⟩ = some (.bool x.again)
theorem CpAt.of {w : World} {b : Nat} {x : It} {t : TypeId} {f : Nat × Nat} (h : w.heap[b]? = some (.cells x.vals.toArray t f)) : CpAt w b x :=
  ⟨cell_of h rfl, cell_of h rfl, cell_of h rfl, cell_of h rfl, cell_of h rfl, cell_of h rfl, cell_of h rfl, cell_of h rfl, cell_of h rfl, cell_of h rfl, cell_of h rfl, cell_of h rfl⟩
theorem CpAt.new (w : World) (x : It) : CpAt (w.alloc (.cells x.vals.toArray 45)) w.heap.size x := CpAt.of (heap_alloc_new w _)
theorem CpAt.below {w w' : World} {b : Nat} {x : It} (h : CpAt w b x) (hb : Below w.heap.size w w') : CpAt w' b x := by
  have hs := Same.of_below hb
  exact ⟨hs.cell h.c0, hs.cell h.c1, hs.cell h.c2, hs.cell h.c3, hs.cell h.c4, hs.cell h.c5, hs.cell h.c6, hs.cell h.c7, hs.cell h.c8, hs.cell h.c9, hs.cell h.c10, hs.cell h.c11⟩
/-- A text that is none, and one that is some: as the walk spells it. -/
theorem ne_empty {s : ByteArray} (h : s ≠ ByteArray.empty) : s.toList.isEmpty = false ∧ (s.toList == []) = false := by
  have h1 : s.toList ≠ [] := by
    intro e
    apply h
    rw [ByteArray.toList_eq] at e
    exact ByteArray.ext (Array.ext' e)
  exact ⟨by simpa using h1, by simpa using h1⟩
end Go.Proofs.Ytclhgnlhejohgaa.Tc
