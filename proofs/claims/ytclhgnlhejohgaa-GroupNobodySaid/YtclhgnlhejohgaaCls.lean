/- A region that draws its order, whose calls may make memory or move draws but hand back one value each: over a class of worlds. -/
import Derived.WalkKit
import Derived.Deep.QuietTactic
import Derived.BigQuiet
import Derived.Test.YtclhgnlhejohgaaFrame
set_option linter.unusedVariables false
namespace Go.Proofs.Ytclhgnlhejohgaa.Tc
open Go.RowKit

/-- A world of a class. -/
structure Wd (S : World → Prop) where
  w : World
  ok : S w
theorem wp_region_cls {P : Program} {id : Nat} {Q : Exit → Act → World → Prop} {a : Act} {w : World} {l : List Oper} (S : World → Prop) (hS : S w.drew) (hm : P.follows .mixedOrders = true) (hB : Region.lexB .any l.toArray = true)
    (h : wpQuiet P l.toArray (fun w' => ∃ n : Wd S, w' = n.w) (fun a' => ∀ w', (∃ n : Wd S, w' = n.w) → Q .normal a' w') l a) : (Code.region id l.toArray true).wp P Q a w :=
  wp_region_quiet (C := fun w' => ∃ n : Wd S, w' = n.w) hm hB ⟨⟨w.drew, hS⟩, rfl⟩ (by simpa using h)
/-- What grew from a world: the class that serves most. -/
abbrev Gr (w : World) : World → Prop := fun w' => Below w.heap.size w w'
theorem gr_drew (w : World) : Gr w w.drew := ⟨rfl, rfl, rfl, Nat.le_refl _, fun _ _ => rfl⟩
instance (w : World) : Nonempty (Wd (Gr w)) := ⟨⟨w.drew, gr_drew w⟩⟩
theorem Wd.cell {w : World} (n : Wd (Gr w)) {a : Addr} {v : Value} (h : w.cell? a = some v) : n.w.cell? a = some v := (World.cell?_of_block (n.ok.block a.block (World.block_lt_of_cell? w a h))).trans h
theorem cls_call {P : Program} {f : FuncId} {args : Array Value} {w : World} {n : Wd (Gr w)} {v : Value}
    (h : Calls P f args n.w fun e w' => e = .returned v ∧ Below n.w.heap.size n.w w') : Calls P f args n.w fun e w'' => e = .returned v ∧ ∃ m : Wd (Gr w), w'' = m.w :=
  h.mono fun _ w' ⟨he, hb⟩ => ⟨he, ⟨w', n.ok.trans (hb.mono n.ok.size)⟩, rfl⟩
theorem cls_same {P : Program} {f : FuncId} {args : Array Value} {S : World → Prop} {n : Wd S} {v : Value}
    (h : Calls P f args n.w fun e w' => e = .returned v ∧ n.w = w') : Calls P f args n.w fun e w'' => e = .returned v ∧ ∃ m : Wd S, w'' = m.w :=
  h.mono fun _ w' ⟨he, hb⟩ => ⟨he, n, hb.symm⟩
/-- Only draws. -/
abbrev Dr (w : World) : World → Prop := fun w' => ∃ n, w' = w.drewN n
theorem dr_refl (w : World) : Dr w w := ⟨0, rfl⟩
theorem dr_drew (w : World) : Dr w w.drew := ⟨1, rfl⟩
theorem Dr.trans {a b c : World} (h : Dr a b) (k : Dr b c) : Dr a c := by
  obtain ⟨n, rfl⟩ := h
  obtain ⟨m, rfl⟩ := k
  exact ⟨n + m, World.drewN_drewN ..⟩
theorem Dr.below {a b : World} (h : Dr a b) : Below a.heap.size a b := by
  obtain ⟨n, rfl⟩ := h
  exact below_drewN (Below.refl _ _) n
instance (w : World) : Nonempty (Wd (Dr w)) := ⟨⟨w.drew, dr_drew w⟩⟩
theorem Wd.cellD {w : World} (n : Wd (Dr w)) {a : Addr} {v : Value} (h : w.cell? a = some v) : n.w.cell? a = some v := by
  obtain ⟨x, k, rfl⟩ := n
  exact h
theorem cls_draws {P : Program} {f : FuncId} {args : Array Value} {w : World} {n : Wd (Dr w)} {v : Value}
    (h : Calls P f args n.w fun e w' => e = .returned v ∧ ∃ m, w' = n.w.drewN m) : Calls P f args n.w fun e w'' => e = .returned v ∧ ∃ m : Wd (Dr w), w'' = m.w :=
  h.mono fun _ w' ⟨he, hb⟩ => ⟨he, ⟨w', Dr.trans n.ok hb⟩, rfl⟩
end Go.Proofs.Ytclhgnlhejohgaa.Tc
