/- The listed variables of a row over topics: what they give, and a start that meets them. -/
import Derived.Test.YtnognmnjlnokeaaDoorRows
import Derived.Test.YtnognmnjlnokeaaDoorTopA
import Derived.ProofKit
import Derived.LaidMore
import Derived.OpenShut
import Derived.HandedShaped
import Derived.Stop.Joined
set_option linter.unusedVariables false
namespace Go.Proofs.YtnognmnjlnokeaaDoor.TopW
open Go Go.ChangeShapes Go.WideShapes Go.ChangeAt Go.RowKit

theorem gAcc : Tryd.prog.globalNamed "unicode/utf8.acceptRanges" = some 4 := by kernel_rfl
theorem gFirst : Tryd.prog.globalNamed "unicode/utf8.first" = some 3 := by kernel_rfl
theorem gBad : Tryd.prog.globalNamed "towncrier/api.ErrMalformed" = some 2 := by kernel_rfl
theorem gBig : Tryd.prog.globalNamed "towncrier/api.ErrTooLarge" = some 1 := by kernel_rfl
theorem tBad : (Tryd.prog.globals[2]?).map (·.type) = some 110 := by kernel_rfl
theorem tBig : (Tryd.prog.globals[1]?).map (·.type) = some 110 := by kernel_rfl
def cellsOfD : DataW Unit → Array Value
  | .agg ds => (ds.map fun | .lit (.int k n) => Value.int k n | _ => undef).toArray
  | _ => #[]
noncomputable def start (os : Os) : World :=
  let w := World.doorLaid Tryd.prog 600 os
  { w with heap := w.heap.modify 3 fun
      | .cells _ t f => .cells (cellsOfD Go.Pinned.utf8First) t f
      | o => o }
theorem start_met (os : Os) (args : Array Value) : laidMetH Tryd.prog Rows.topicIsRow.laid ((start os).forCall (fun _ _ => 0) ⟨#[], args, []⟩).memory :=
  laidMetH_of_parts3 (fuel := 8) (laidMet_of_run' 8 (by kernel_rfl) (by kernel_rfl)) (by kernel_rfl) (by kernel_rfl)
theorem err_cell {W : World} {n : String} {g : Nat} {t : TypeId} {cs : Array Value} {f : Nat} {name : String} {d : DataW Unit} {p : List MemPlace} {enc : TypeId × Value → Unit} {sp : Nat → Bool} (hg : Tryd.prog.globalNamed n = some g) (hv : W.var? Tryd.prog n = some cs) (ht : t = 110)
    (hd : DataW.trod enc Tryd.prog W 0 sp false f t cs.toList = some (.iface name d, p)) : ∃ u v, W.cell? ⟨g, 0, none⟩ = some (.iface u v) := by
  subst ht
  obtain ⟨_, u, v, hcs, _, _⟩ := iface_of_trod Tryd.underlying110 hd
  refine ⟨u, v, ?_⟩
  rw [World.var?_cell hg hv 0, Array.eq_one_of_toList hcs]
  rfl
/-- What the row's condition and the world's shape give. -/
theorem env_of {W : World} (h : laidMetH Tryd.prog Rows.topicIsRow.laid W) (hsh : W.ShapedOpen Tryd.prog) : Env W := by
  have hm := Tryd.laysM146.s1_3 W hsh
  rw [MakeChecks.laidMetH_plain _ _ _ (by kernel_rfl)] at h
  obtain ⟨ps, ⟨g0, t0, cs0, f0, p0, q0, hg0, ht0, hv0, hd0, ⟨g1, t1, cs1, f1, p1, q1, hg1, ht1, hv1, hd1, ⟨g2, t2, cs2, f2, p2, q2, hg2, ht2, hv2, hd2, _, _⟩, _⟩, _⟩, _, _⟩ := h
  obtain rfl := Option.some.inj (gBad.symm.trans hg1)
  obtain rfl := Option.some.inj (gBig.symm.trans hg2)
  obtain rfl := Option.some.inj (tBad.symm.trans ht1)
  obtain rfl := Option.some.inj (tBig.symm.trans ht2)
  have hbad := err_cell hg1 hv1 rfl hd1
  have hbig := err_cell hg2 hv2 rfl hd2
  refine ⟨hm, hbig, hbad, ?_⟩
  obtain ⟨u, v, hc⟩ := hbad
  exact World.block_lt_of_cell? W _ hc
variable {H : Type} {enc : TypeId × Value → H}
/-- The wrap that hands on both the listed variables' condition and the world's shape. -/
theorem door_wrap {a : Assume} {C : Checked} {os : Os} {f : FuncId} {fn : Func} {s : ChangeSpec} {conds : List PathCond} {apart fresh handsOn again : Bool} {X : World → Array Value → Prop}
    (hX : ∀ (w w' : World) (args : Array Value), w.heap = w'.heap → X w args → X w' args)
    (own : ownKnob C.prog.godebug = none) (started : os.Started) (noInit : C.prog.inits.idxOf? f = none) (hfn : C.prog.funcs[f]? = some fn)
    (witness : ∃ (w : World) (tape : Tape) (i : Input), w.os = os ∧ (w.forCall tape i).Shaped C.prog ∧ i.vars = [] ∧ Input.okWide C.prog (w.forCall tape i) .any w.heap.size f i ∧
      ((s.pre enc C.prog fn conds apart (w.forCall tape i).memory i.args ∧ X (w.forCall tape i).memory i.args) ∧ sizedMet enc C.prog fn (OpenSpec.ofChange s) apart (w.forCall tape i).memory i.args) ∧ a.holds C.prog (lone (Frame.enter C.prog f i.args .normal) [] (w.forCall tape i)))
    (contract : ∀ (W : World) (base : Nat) (args : Array Value) (ds gs : List (DataW H)) (before : List MemPlace),
      (∀ (j : Nat) t v, fn.params[j]? = some t → args[j]? = some v → Value.okWide C.prog W .any base t v) →
      DataW.Whole enc C.prog fn.params.toList s.vars apart W args.toList ds gs before →
      conds.all (PathCond.test C.prog ⟨fn.params.toList, ds, s.plain.varTypes C.prog, gs⟩) = true →
      (DataW.weightsEach C.prog (fn.params.toList ++ s.plain.varTypes C.prog) (ds ++ gs)).all (· ≤ reachBytes) = true → W.ShapedOpen C.prog → X W args →
      a.holds C.prog (lone (Frame.enter C.prog f args .normal) [] W) →
      Calls C.prog f args W fun e W' => ∃ v, e = .returned v ∧ s.post enc C.prog fn apart fresh handsOn again W args v W') :
    ReturnsInHanded a C os f .any (fun w args => (s.pre enc C.prog fn conds apart w args ∧ X w args) ∧ sizedMet enc C.prog fn (OpenSpec.ofChange s) apart w args) (s.post enc C.prog fn apart fresh handsOn again) := by
  refine returnsInHanded_of_calls own started noInit witness ?_
  intro w tape i _ hsh _ hok hpre hholds
  obtain ⟨_, _, _, fn', hfn', _, _, _, _, hval⟩ := hok
  have e : fn' = fn := Option.some.inj (hfn'.symm.trans hfn)
  subst e
  obtain ⟨⟨⟨ds, gs, before, hw, hc⟩, hx⟩, hz⟩ := hpre
  have hw' := DataW.Whole.of_heap (w' := w.forCall tape i) (by rfl) hw
  refine (contract (w.forCall tape i) w.heap.size i.args ds gs before hval hw' hc (hz.weights hw) hsh (hX _ _ _ (by rfl) hx) hholds).mono fun e W' ⟨v, he, hp⟩ => ?_
  subst he
  exact ChangeSpec.post_blind hp
theorem own : ownKnob Tryd.prog.godebug = none := by kernel_rfl
theorem laidOut : laidOutB Tryd.prog = true := by kernel_rfl
theorem start_shaped (os : Os) (args : Array Value) : ((start os).forCall (fun _ _ => 0) ⟨#[], args, []⟩).Shaped Tryd.prog := World.shaped_of_RefB (by kernel_rfl) (by kernel_rfl)
end Go.Proofs.YtnognmnjlnokeaaDoor.TopW
