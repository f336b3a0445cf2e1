/- Messages, properties and items as data. -/
import Derived.Test.YtclhgnlhejohgaaProg
import Derived.KernelRfl
import Derived.Test.YtclhgnlhejohgaaFrame
import Derived.Test.YtclhgnlhejohgaaKind
set_option linter.unusedVariables false
set_option linter.unusedSimpArgs false
namespace Go.Proofs.Ytclhgnlhejohgaa.Tc
open Go.RowKit

noncomputable def aI : Kd Try.prog 3 Int := kInt Try.underlying3 (by kernel_rfl)
noncomputable def aB : Kd Try.prog 4 Bool := kBool Try.underlying4 (by kernel_rfl)
noncomputable def aS : Kd Try.prog 9 ByteArray := kStr Try.underlying9 (by kernel_rfl)
/-- A property. -/
structure Prp where
  id : Int
  n : Int
  s : ByteArray
  v : ByteArray
set_option maxRecDepth 100000 in
noncomputable def kProp0 : Kd Try.prog 113 (Int × Int × ByteArray × ByteArray) := kStruct Try.underlying113 rfl (fCons rfl aI (fCons rfl aI (fCons rfl aS (fOne rfl aS)))) (by kernel_rfl)
noncomputable def kProp : Kd Try.prog 113 Prp := kMap kProp0 (fun x => ⟨x.1, x.2.1, x.2.2.1, x.2.2.2⟩) (fun p => (p.id, p.n, p.s, p.v)) (fun _ => rfl)
def Prp.wf (p : Prp) : Prop := (Lit.int .i64 p.id).wf = true ∧ (Lit.int .i64 p.n).wf = true ∧ p.s.size ≤ maxLen ∧ p.v.size ≤ maxLen
def Prp.cells (p : Prp) : List Value := [.int .i64 p.id, .int .i64 p.n, .string p.s, .string p.v]
theorem kProp_rel (w : World) (p : Prp) (cs : List Value) : kProp.rel w p cs ↔ cs = p.cells ∧ p.wf := by
  constructor
  · rintro ⟨c0, cr, rfl, ⟨rfl, h0⟩, ⟨c1, cr, rfl, ⟨rfl, h1⟩, ⟨c2, cr, rfl, ⟨rfl, h2⟩, ⟨rfl, h3⟩⟩⟩⟩
    exact ⟨rfl, h0, h1, h2, h3⟩
  · rintro ⟨rfl, h0, h1, h2, h3⟩
    exact ⟨[_], _, rfl, ⟨rfl, h0⟩, [_], _, rfl, ⟨rfl, h1⟩, [_], _, rfl, ⟨rfl, h2⟩, rfl, h3⟩
theorem cellsProp : Try.prog.cellsOf 113 = 4 := by kernel_rfl
theorem prop_cells {w : World} {A : Option Addr} {l : List Prp} (h : SliceIs kProp w A l) {k : Nat} (hk : k < l.length) :
    ∃ b off, A = some ⟨b, off, none⟩ ∧ b < w.heap.size ∧ w.cell? ⟨b, off + k * 4, none⟩ = some (.int .i64 l[k].id) ∧ w.cell? ⟨b, off + k * 4 + 1, none⟩ = some (.int .i64 l[k].n) ∧
      w.cell? ⟨b, off + k * 4 + 2, none⟩ = some (.string l[k].s) ∧ w.cell? ⟨b, off + k * 4 + 3, none⟩ = some (.string l[k].v) ∧ l[k].wf := by
  obtain ⟨b, off, hA, hb, hc⟩ := h.at_ (by omega)
  obtain ⟨cs, hr, hcell⟩ := hc k l[k] (List.getElem?_eq_getElem hk)
  obtain ⟨rfl, hw⟩ := (kProp_rel _ _ _).1 hr
  rw [cellsProp] at hcell
  exact ⟨b, off, hA, hb, hcell 0 _ rfl, hcell 1 _ rfl, hcell 2 _ rfl, hcell 3 _ rfl, hw⟩
/-- A message: its parts; its properties with the head of their slice. -/
structure Mg where
  topic : ByteArray
  payload : ByteArray
  qos : Int
  retain : Bool
  pA : Option Addr
  pc : Nat
  props : List Prp
  from_ : ByteArray
  until_ : Int
  seq : Int
  group : ByteArray
def Mg.wf (m : Mg) : Prop := m.topic.size ≤ maxLen ∧ m.payload.size ≤ maxLen ∧ (Lit.int .i64 m.qos).wf = true ∧ m.from_.size ≤ maxLen ∧ (Lit.int .i64 m.until_).wf = true ∧ (Lit.int .i64 m.seq).wf = true ∧ m.group.size ≤ maxLen
def Mg.vals (m : Mg) : List Value := [.string m.topic, .string m.payload, .int .i64 m.qos, .bool m.retain, .slice m.pA m.props.length m.pc, .string m.from_, .int .i64 m.until_, .int .i64 m.seq, .string m.group]
noncomputable def kProps : Kd Try.prog 41 (Option Addr × Nat × List Prp) := kHdr Try.underlying41 (by kernel_rfl) (by rw [cellsProp]; decide) kProp
set_option maxRecDepth 100000 in
noncomputable def kMsg0 : Kd Try.prog 43 (ByteArray × ByteArray × Int × Bool × (Option Addr × Nat × List Prp) × ByteArray × Int × Int × ByteArray) :=
  kStruct Try.underlying43 rfl (fCons rfl aS (fCons rfl aS (fCons rfl aI (fCons rfl aB (fCons rfl kProps (fCons rfl aS (fCons rfl aI (fCons rfl aI (fOne rfl aS))))))))) (by kernel_rfl)
noncomputable def kMsg : Kd Try.prog 43 Mg :=
  kMap kMsg0
    (fun x => ⟨x.1, x.2.1, x.2.2.1, x.2.2.2.1, x.2.2.2.2.1.1, x.2.2.2.2.1.2.1, x.2.2.2.2.1.2.2, x.2.2.2.2.2.1, x.2.2.2.2.2.2.1, x.2.2.2.2.2.2.2.1, x.2.2.2.2.2.2.2.2⟩)
    (fun m => (m.topic, m.payload, m.qos, m.retain, (m.pA, m.pc, m.props), m.from_, m.until_, m.seq, m.group)) (fun _ => rfl)
theorem kMsg_rel (w : World) (m : Mg) (cs : List Value) : kMsg.rel w m cs ↔ cs = m.vals ∧ m.wf ∧ SliceIs kProp w m.pA m.props := by
  constructor
  · rintro ⟨c0, cr, rfl, ⟨rfl, h0⟩, ⟨c1, cr, rfl, ⟨rfl, h1⟩, ⟨c2, cr, rfl, ⟨rfl, h2⟩, ⟨c3, cr, rfl, rfl, ⟨c4, cr, rfl, ⟨rfl, h4⟩, ⟨c5, cr, rfl, ⟨rfl, h5⟩, ⟨c6, cr, rfl, ⟨rfl, h6⟩, ⟨c7, cr, rfl, ⟨rfl, h7⟩, ⟨rfl, h8⟩⟩⟩⟩⟩⟩⟩⟩⟩
    exact ⟨rfl, ⟨h0, h1, h2, h5, h6, h7, h8⟩, h4⟩
  · rintro ⟨rfl, ⟨h0, h1, h2, h5, h6, h7, h8⟩, h4⟩
    exact ⟨[_], _, rfl, ⟨rfl, h0⟩, [_], _, rfl, ⟨rfl, h1⟩, [_], _, rfl, ⟨rfl, h2⟩, [_], _, rfl, rfl, [_], _, rfl, ⟨rfl, h4⟩, [_], _, rfl, ⟨rfl, h5⟩, [_], _, rfl, ⟨rfl, h6⟩, [_], _, rfl, ⟨rfl, h7⟩, rfl, h8⟩
theorem cellsMsg : Try.prog.cellsOf 43 = 9 := by kernel_rfl
/-- A message by value. -/
def Mg.val (m : Mg) : Value := .agg #[.string m.topic, .string m.payload, .int .i64 m.qos, .bool m.retain, .slice m.pA m.props.length m.pc, .string m.from_, .int .i64 m.until_, .int .i64 m.seq, .string m.group]
end Go.Proofs.Ytclhgnlhejohgaa.Tc
