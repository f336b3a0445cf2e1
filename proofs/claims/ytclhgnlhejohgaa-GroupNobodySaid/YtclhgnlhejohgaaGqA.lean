/- A group's queue: its state, and the library it calls. -/
import Derived.Test.YtclhgnlhejohgaaMemPure
import Derived.Test.YtclhgnlhejohgaaPickPure
import Derived.Test.YtclhgnlhejohgaaPickNum
import Derived.Test.YtclhgnlhejohgaaLaneA
import Derived.Test.YtclhgnlhejohgaaMemE
import Derived.Test.YtclhgnlhejohgaaLaneH
import Derived.Test.YtclhgnlhejohgaaPickC
import Derived.Test.YtclhgnlhejohgaaPickD
import Derived.Test.YtclhgnlhejohgaaOwn
import Derived.Test.YtclhgnlhejohgaaOrd
import Derived.Shelf.Abstract
import Derived.Deep.LoopGhost
import Derived.Deep.Cut
import Derived.Deep.DeepCutAuto
set_option linter.unusedVariables false
set_option linter.unusedSimpArgs false
namespace Go.Proofs.Ytclhgnlhejohgaa.GrpP
open Go.Proofs.Ytclhgnlhejohgaa.MemP Go.Proofs.Ytclhgnlhejohgaa.PickP Go.Proofs.Ytclhgnlhejohgaa.LaneP Go.Proofs.Ytclhgnlhejohgaa.LaneW Go.Proofs.Ytclhgnlhejohgaa.PickW
abbrev Item := Tc.It
/-- Who may get a message. -/
def mayP (L : List Mem) (x : Item) : List ByteArray := if (here L).filter (fun s => !has x.behind s) = [] then here L else (here L).filter (fun s => !has x.behind s)
def readyP (L : List Mem) (x : Item) (free : List ByteArray) : List ByteArray := (mayP L x).filter (has free)
def oneP (l : List ByteArray) (s : ByteArray) (free : List ByteArray) : ByteArray × Bool := if l = [] then (ByteArray.empty, false) else (s, has free s)
def underN (I : List Item) (s : ByteArray) : Nat := (I.filter fun x => decide (s ≠ No) && decide (x.at_ = s)).length
def underP (I : List Item) (l : List ByteArray) : List Int := l.map fun s => (underN I s : Int)
def firstW (I : List Item) : Nat := I.findIdx fun x => decide (x.at_ = No)
def whomP (st : Int) (I : List Item) (L : List Mem) (last : ByteArray) (k : Nat) (x : Item) (free : List ByteArray) : ByteArray × Bool :=
  if st = 2 then oneP (mayP L x) (hash (rank x.msg.from_) (mayP L x)) free
  else if st = 3 then match owner (pr I) x.msg.topic with
    | some s => (s, has free s && may (pr I) k s)
    | none => ((oneP (mayP L x) (hash (rank x.msg.topic) (mayP L x)) free).1, (oneP (mayP L x) (hash (rank x.msg.topic) (mayP L x)) free).2 && may (pr I) k (oneP (mayP L x) (hash (rank x.msg.topic) (mayP L x)) free).1)
  else if st = 4 then oneP (readyP L x free) (least (readyP L x free) (underP I (readyP L x free))) free
  else if st = 5 then ((oneP (here L) ((here L).getD 0 ByteArray.empty) free).1, (oneP (here L) ((here L).getD 0 ByteArray.empty) free).2 && decide (k = firstW I))
  else oneP (readyP L x free) (robin (L.map Mem.client) (readyP L x free) last) free
def okAt (st : Int) (I : List Item) (L : List Mem) (last : ByteArray) (free : List ByteArray) (k : Nat) : Bool := match I[k]? with
  | some x => decide (x.at_ = No) && (whomP st I L last k x free).2
  | none => false
/-- The place that is told first, from the first n on. -/
def nextN (st : Int) (I : List Item) (L : List Mem) (last : ByteArray) (free : List ByteArray) : Option Nat := (List.range I.length).find? (okAt st I L last free)
end Go.Proofs.Ytclhgnlhejohgaa.GrpP
set_option linter.unusedVariables false
set_option linter.unusedSimpArgs false
namespace Go.Proofs.Ytclhgnlhejohgaa.GrpW
open Go.RowKit Go.Proofs.Ytclhgnlhejohgaa.Tc Go.Proofs.Ytclhgnlhejohgaa.GrpP

/-- Blocks that a group's acts may turn. -/
def Mut (w : World) (k : Nat) : Prop := ∃ cur f t, w.heap[k]? = some (.cells cur t f) ∧ (t = 93 ∨ t = 57 ∨ t = 66 ∨ t = 45)
/-- What is older than B, or no part of a group, stays. -/
structure Gf (B : Nat) (w w' : World) : Prop where
  os : w'.os = w.os
  tape : w'.tape = w.tape
  output : w'.output = w.output
  size : w.heap.size ≤ w'.heap.size
  block : ∀ k, k < w.heap.size → (k < B ∨ ¬ Mut w k) → w'.heap[k]? = w.heap[k]?
theorem Gf.refl (B : Nat) (w : World) : Gf B w w := ⟨rfl, rfl, rfl, Nat.le_refl _, fun _ _ _ => rfl⟩
theorem Gf.mut {B : Nat} {w w' : World} (h : Gf B w w') {k : Nat} (hk : k < w.heap.size) (hm : ¬ Mut w k) : ¬ Mut w' k := by
  rintro ⟨cur, f, t, hc, ht⟩
  rw [h.block k hk (.inr hm)] at hc
  exact hm ⟨cur, f, t, hc, ht⟩
theorem Gf.trans {B : Nat} {a b c : World} (h : Gf B a b) (k : Gf B b c) : Gf B a c :=
  ⟨k.os.trans h.os, k.tape.trans h.tape, k.output.trans h.output, Nat.le_trans h.size k.size, fun i hi hm => (k.block i (Nat.lt_of_lt_of_le hi h.size) (hm.elim .inl fun hm => .inr (h.mut hi hm))).trans (h.block i hi hm)⟩
theorem Gf.of_below {B : Nat} {w w' : World} (h : Below w.heap.size w w') : Gf B w w' := ⟨h.os, h.tape, h.output, h.size, fun k hk _ => h.block k hk⟩
theorem Gf.of_tch {S : List Nat} {B : Nat} {w w' : World} (h : Tch S w w') (hS : ∀ i ∈ S, i < w.heap.size → B ≤ i ∧ Mut w i) : Gf B w w' :=
  ⟨h.os, h.tape, h.output, h.size, fun k hk hm => h.block k hk (fun hi => by
    have := hS k hi hk
    rcases hm with hm | hm
    · omega
    · exact hm this.2)⟩
theorem Gf.below {B : Nat} {w w' : World} (h : Gf B w w') (hB : B ≤ w.heap.size) : Below B w w' := ⟨h.os, h.tape, h.output, h.size, fun k hk => h.block k (by omega) (.inl hk)⟩
theorem cell_stay {w w' : World} {b o : Nat} {u : Value} (hb : w'.heap[b]? = w.heap[b]?) (hc : w.cell? ⟨b, o, none⟩ = some u) : w'.cell? ⟨b, o, none⟩ = some u := (World.cell?_of_block (a := ⟨b, o, none⟩) hb).trans hc
/-- A slice whose block stays. -/
theorem slp_kept {w w' : World} {A : Option Addr} {l : List Prp} (h : SliceIs kProp w A l) (hk : ∀ ad, A = some ad → 0 < l.length → ad.block < w.heap.size → w'.heap[ad.block]? = w.heap[ad.block]?) (hz : w.heap.size ≤ w'.heap.size) : SliceIs kProp w' A l :=
  ⟨h.len, fun hn => by
    obtain ⟨b, off, hA, hb, hc⟩ := h.at_ hn
    refine ⟨b, off, hA, by omega, fun i x hx => ?_⟩
    obtain ⟨cs, hr, hcell⟩ := hc i x hx
    exact ⟨cs, (kProp_rel _ _ _).2 ((kProp_rel _ _ _).1 hr), fun j u hu => cell_stay (hk _ hA hn hb) (hcell j u hu)⟩⟩
theorem sls_kept {w w' : World} {A : Option Addr} {l : List ByteArray} (h : SliceIs aS w A l) (hk : ∀ ad, A = some ad → 0 < l.length → ad.block < w.heap.size → w'.heap[ad.block]? = w.heap[ad.block]?) (hz : w.heap.size ≤ w'.heap.size) : SliceIs aS w' A l :=
  ⟨h.len, fun hn => by
    obtain ⟨b, off, hA, hb, hc⟩ := h.at_ hn
    refine ⟨b, off, hA, by omega, fun i x hx => ?_⟩
    obtain ⟨cs, hr, hcell⟩ := hc i x hx
    exact ⟨cs, hr, fun j u hu => cell_stay (hk _ hA hn hb) (hcell j u hu)⟩⟩
/-- An item whose slices can be read, and stay. -/
structure Lod (B : Nat) (w : World) (x : Tc.It) : Prop where
  led : LaneW.Led w x
  fixp : ∀ ad, x.msg.pA = some ad → 0 < x.msg.props.length → ad.block < B ∨ ¬ Mut w ad.block
  fixb : ∀ ad, x.bA = some ad → 0 < x.behind.length → ad.block < B ∨ ¬ Mut w ad.block
  bcap : x.behind.length ≤ x.bc
theorem sl_lt {w : World} {e : TypeId} {α : Type} {d : Kd Try.prog e α} {A : Option Addr} {l : List α} (h : SliceIs d w A l) {ad : Addr} (hA : A = some ad) (hn : 0 < l.length) : ad.block < w.heap.size := by
  obtain ⟨b, off, h2, hb, -⟩ := h.at_ hn
  rw [hA] at h2
  injection h2 with h2
  rw [h2]
  exact hb
theorem Lod.gf {B : Nat} {w w' : World} {x : Tc.It} (h : Lod B w x) (hg : Gf B w w') : Lod B w' x :=
  ⟨⟨h.led.1, slp_kept h.led.2.1 (fun ad hA hn hb => hg.block _ hb (h.fixp ad hA hn)) hg.size, sls_kept h.led.2.2 (fun ad hA hn hb => hg.block _ hb (h.fixb ad hA hn)) hg.size⟩,
   fun ad hA hn => (h.fixp ad hA hn).elim .inl fun hm => .inr (hg.mut (sl_lt h.led.2.1 hA hn) hm),
   fun ad hA hn => (h.fixb ad hA hn).elim .inl fun hm => .inr (hg.mut (sl_lt h.led.2.2 hA hn) hm), h.bcap⟩
theorem Lod.below {B : Nat} {w w' : World} {x : Tc.It} (h : Lod B w x) (hb : Below w.heap.size w w') : Lod B w' x := h.gf (Gf.of_below hb)
/-- A group's parts. -/
structure GS where
  key : ByteArray
  st : Int
  most : Int
  I : List Tc.It
  L : List MemP.Mem
  gen : Int
  last : ByteArray
theorem vals_len (x : Tc.It) : (It.vals x).length = 12 := rfl
/-- A group in memory. -/
structure Gp (B : Nat) (w : World) (g ms : Nat) (mv iv : Value) (S : GS) : Prop where
  st : w.heap[g]? = some (.cells #[.pointer (some ⟨ms, 0, none⟩), .string S.key, .int .i64 S.st, .int .i64 S.most, iv, .string S.last] 93 (0, 0))
  mem : MemW.At w ms mv S.L S.gen
  own : w.ownsRow 0 45 12 iv S.I.length (S.I.flatMap It.vals)
  each : ∀ x ∈ S.I, Lod B w x
  ng : B ≤ g
  nm : B ≤ ms
  nmv : ∀ k, mv.ownBlock = some k → B ≤ k
  niv : ∀ k, iv.ownBlock = some k → B ≤ k
section
variable {B : Nat} {w w' : World} {g ms : Nat} {mv iv : Value} {S : GS}
theorem Gp.below (h : Gp B w g ms mv iv S) (hb : Below w.heap.size w w') : Gp B w' g ms mv iv S :=
  ⟨(hb.block g (lt_of_block h.st)).trans h.st, h.mem.below hb, own_kept h.own (Tch.of_below (S := []) hb) (by simp), fun x hx => (h.each x hx).below hb, h.ng, h.nm, h.nmv, h.niv⟩
theorem Gp.bB (h : Gp B w g ms mv iv S) : B ≤ w.heap.size := by have := lt_of_block h.st; have := h.ng; omega
theorem Gp.mg (h : Gp B w g ms mv iv S) : Mut w g := ⟨_, _, _, h.st, .inl rfl⟩
theorem Gp.mm (h : Gp B w g ms mv iv S) : Mut w ms := ⟨_, _, _, h.mem.st, .inr (.inl rfl)⟩
theorem Gp.mmv (h : Gp B w g ms mv iv S) : ∀ k, mv.ownBlock = some k → B ≤ k ∧ Mut w k := fun k hk => by
  obtain ⟨cur, hc⟩ := own_type h.mem.row.own hk
  exact ⟨h.nmv k hk, _, _, _, hc, .inr (.inr (.inl rfl))⟩
theorem Gp.miv (h : Gp B w g ms mv iv S) : ∀ k, iv.ownBlock = some k → B ≤ k ∧ Mut w k := fun k hk => by
  obtain ⟨cur, hc⟩ := own_type h.own hk
  exact ⟨h.niv k hk, _, _, _, hc, .inr (.inr (.inr rfl))⟩
theorem Gp.gm (h : Gp B w g ms mv iv S) : g ≠ ms := type_ne h.st h.mem.st (by decide)
theorem Gp.gi (h : Gp B w g ms mv iv S) : ∀ k, iv.ownBlock = some k → k ≠ g := own_type_ne h.own h.st (by decide)
theorem Gp.mi (h : Gp B w g ms mv iv S) : ∀ k, iv.ownBlock = some k → k ≠ ms := own_type_ne h.own h.mem.st (by decide)
theorem Gp.gv (h : Gp B w g ms mv iv S) : ∀ k, mv.ownBlock = some k → k ≠ g := own_type_ne h.mem.row.own h.st (by decide)
theorem Gp.vi (h : Gp B w g ms mv iv S) : ∀ k j, mv.ownBlock = some k → iv.ownBlock = some j → k ≠ j := fun k j hk hj => by
  obtain ⟨c1, h1⟩ := own_type h.mem.row.own hk
  obtain ⟨c2, h2⟩ := own_type h.own hj
  exact type_ne h1 h2 (by decide)
/-- The items as they can be read. -/
theorem Gp.items (h : Gp B w g ms mv iv S) : ∃ A c, iv = .slice A S.I.length c ∧ SliceIs kItem w A S.I :=
  LaneW.OwnIt.form (w0 := w) ⟨h.own, fun x hx => (h.each x hx).led⟩ (Below.refl _ _)
/-- The members turn. -/
theorem Gp.members (h : Gp B w g ms mv iv S) {mv' : Value} {L' : List MemP.Mem} {gen' : Int} (ht : MemW.Turn ms mv w w' mv') (ha : MemW.At w' ms mv' L' gen') : Gp B w' g ms mv' iv { S with L := L', gen := gen' } ∧ Gf B w w' := by
  have hS : ∀ i ∈ ms :: mv.ownBlock.toList, i < w.heap.size → B ≤ i ∧ Mut w i := by
    intro i hi hlt
    rcases List.mem_cons.1 hi with rfl | hi
    · exact ⟨h.nm, h.mm⟩
    · exact h.mmv i (by simpa using hi)
  have hg := Gf.of_tch ht.tch hS
  refine ⟨⟨(ht.tch.block g (lt_of_block h.st) ?_).trans h.st, ha, own_kept h.own ht.tch ?_, fun x hx => (h.each x hx).gf hg, h.ng, h.nm, ?_, h.niv⟩, hg⟩
  · intro hm
    rcases List.mem_cons.1 hm with e | hm
    · exact h.gm e
    · exact h.gv g (by simpa using hm) rfl
  · intro k hk hm
    rcases List.mem_cons.1 hm with e | hm
    · exact h.mi k hk e
    · exact h.vi k k (by simpa using hm) hk rfl
  · intro k hk
    rcases ht.loc k hk with h1 | h1
    · exact h.nmv k h1
    · have := h.bB; omega
/-- The items, and what lies in the group's own cells, turn. -/
theorem Gp.turn (h : Gp B w g ms mv iv S) {iv' : Value} {S' : GS} (hL : S'.L = S.L) (hgen : S'.gen = S.gen) (ht : Tch (g :: iv.ownBlock.toList) w w')
    (hst : w'.heap[g]? = some (.cells #[.pointer (some ⟨ms, 0, none⟩), .string S'.key, .int .i64 S'.st, .int .i64 S'.most, iv', .string S'.last] 93 (0, 0)))
    (hown : w'.ownsRow 0 45 12 iv' S'.I.length (S'.I.flatMap It.vals)) (hloc : ∀ k, iv'.ownBlock = some k → iv.ownBlock = some k ∨ w.heap.size ≤ k)
    (hx : Gf B w w' → ∀ x ∈ S'.I, Lod B w' x) : Gp B w' g ms mv iv' S' ∧ Gf B w w' := by
  have hS : ∀ i ∈ g :: iv.ownBlock.toList, i < w.heap.size → B ≤ i ∧ Mut w i := by
    intro i hi hlt
    rcases List.mem_cons.1 hi with rfl | hi
    · exact ⟨h.ng, h.mg⟩
    · exact h.miv i (by simpa using hi)
  have hg := Gf.of_tch ht hS
  refine ⟨⟨hst, ?_, hown, hx hg, h.ng, h.nm, h.nmv, ?_⟩, hg⟩
  · rw [hL, hgen]
    refine h.mem.kept ht ?_ ?_
    · intro hm
      rcases List.mem_cons.1 hm with e | hm
      · exact h.gm e.symm
      · exact h.mi ms (by simpa using hm) rfl
    · intro k hk hm
      rcases List.mem_cons.1 hm with e | hm
      · exact h.gv k hk e
      · exact h.vi k k hk (by simpa using hm) rfl
  · intro k hk
    rcases hloc k hk with h1 | h1
    · exact h.niv k h1
    · have := h.bB; omega
theorem Gp.c0 (h : Gp B w g ms mv iv S) : w.cell? ⟨g, 0, none⟩ = some (.pointer (some ⟨ms, 0, none⟩)) := cell_of h.st rfl
theorem Gp.c1 (h : Gp B w g ms mv iv S) : w.cell? ⟨g, 1, none⟩ = some (.string S.key) := cell_of h.st rfl
theorem Gp.c2 (h : Gp B w g ms mv iv S) : w.cell? ⟨g, 2, none⟩ = some (.int .i64 S.st) := cell_of h.st rfl
theorem Gp.c3 (h : Gp B w g ms mv iv S) : w.cell? ⟨g, 3, none⟩ = some (.int .i64 S.most) := cell_of h.st rfl
theorem Gp.c4 (h : Gp B w g ms mv iv S) : w.cell? ⟨g, 4, none⟩ = some iv := cell_of h.st rfl
theorem Gp.c5 (h : Gp B w g ms mv iv S) : w.cell? ⟨g, 5, none⟩ = some (.string S.last) := cell_of h.st rfl
end
end Go.Proofs.Ytclhgnlhejohgaa.GrpW
set_option linter.unusedVariables false
set_option linter.unusedSimpArgs false
namespace Go.Proofs.Ytclhgnlhejohgaa.GrpW
open Go.RowKit Go.Proofs.Ytclhgnlhejohgaa.Tc Go.Proofs.Ytclhgnlhejohgaa.GrpP

theorem alloc_below (w : World) (o : Obj) : Below w.heap.size w (w.alloc o) := (Below.refl _ _).alloc (Nat.le_refl _) _
theorem own_set' {α : Type} {size : Nat} {vals : α → List Value} (hv : ∀ x, (vals x).length = size) {w : World} {e : TypeId} {l : List α} {g c n : Nat} (hn : n = l.length) (h : w.ownsRow 0 e size (.slice (some ⟨g, 0, none⟩) n c) n (l.flatMap vals)) {k : Nat} {x y : α} (hk : l[k]? = some x) (j : Nat) (hj : j < size) (u : Value)
    (hy : vals y = (vals x).set j u) : (w.setCell ⟨g, k * size + j, none⟩ u).ownsRow 0 e size (.slice (some ⟨g, 0, none⟩) n c) n ((l.set k y).flatMap vals) ∧ Tch [g] w (w.setCell ⟨g, k * size + j, none⟩ u) := by
  subst hn
  obtain ⟨h1, h2⟩ := own_set hv h hk j hj u hy
  exact ⟨h1, Tch.grownBy h2⟩
theorem zero_one (zs : Array Value) (h0 : 0 < zs.size) (hz : ∀ u ∈ zs.toList, u.oneCell' = true) (m : Nat) : ∀ u ∈ (Builtin.zeroCells zs m).toList, u.oneCell' = true := by
  intro u hu
  unfold Builtin.zeroCells at hu
  rw [Array.toList_map, List.mem_map] at hu
  obtain ⟨i, -, rfl⟩ := hu
  have hl : i % zs.size < zs.size := Nat.mod_lt _ h0
  rw [getElem!_pos zs (i % zs.size) hl]
  exact hz _ (by simp)
theorem wpList_clear_eq {P : Program} {w w1 : World} {ops : Array Oper} {rest : List Oper} {o : Oper} {a : Act} {Q : Exit → Act → World → Prop} (hg : o.guard = none) (hd : o.dst = none) (x : Operand) (t : TypeId)
    (ho : o.op = .call { callee := .builtin .clear, args := #[x], argTypes := #[t] }) {sl : Value} (hx : a.eval x = sl)
    (hr : (Builtin.clear_ #[t] o.type #[sl]).run P w = .ok (.tuple #[]) w1) (hK : wpList P ops Q rest a w1) : wpList P ops Q (o :: rest) a w := by
  refine wpList_plain hg fun K' hK' => ?_
  unfold Oper.wp execOp
  simp only [ho, resolve, invoke, builtin, Sem.run_bind, Sem.run_pure, Result.andThen_ok, List.map_toArray, List.map_cons, List.map_nil, hx, hr]
  have h := hK' _ _ hK
  simpa [Oper.upon, hd, Act.put] using h
/-- 'clear' of all from the i-th element on. -/
theorem clear_run {P : Program} {t e : TypeId} {size : Nat} {zs : Array Value} (ht : P.underlying t = some (.slice e)) (hz : ∀ w, (zeroValue e).run P w = .ok (.agg zs) w) (hs : zs.size = size) (hs0 : 0 < size) (h1 : ∀ u ∈ zs.toList, u.oneCell' = true)
    {w : World} {g n c i : Nat} {xs : List Value} (h : w.ownsRow 0 e size (.slice (some ⟨g, 0, none⟩) n c) n xs) (hi : i < n) :
    ∃ w', (Builtin.clear_ #[t] 0 #[.slice (some ⟨g, i * size, none⟩) (n - i) (c - i)]).run P w = .ok (.tuple #[]) w' ∧ w'.ownsRow 0 e size (.slice (some ⟨g, 0, none⟩) i c) i (xs.take (i * size)) ∧ Tch [g] w w' := by
  rcases h.2 with ⟨h0, _⟩ | ⟨g', cap, cur, hv, hb, hh, h2, h3, h4, h5⟩
  · cases h0
  · injection hv with h6 h7 h8
    injection h6 with h6
    injection h6 with h6
    subst h6
    subst h8
    have hlen := h.1
    obtain ⟨m, hm⟩ : ∃ m, n - i = m + 1 := ⟨n - i - 1, by omega⟩
    obtain ⟨vs, hvs⟩ : ∃ vs, vs = (Builtin.zeroCells zs (m + 1)).toList := ⟨_, rfl⟩
    have hvl : vs.length = (m + 1) * size := by rw [hvs, Array.length_toList, size_zeroCells, hs]
    have hmul : i * size + (m + 1) * size = n * size := by rw [← Nat.add_mul]; congr 1; omega
    have hcs : n * size ≤ c * size := Nat.mul_le_mul_right _ h2
    have hst := run_storeCells_at (P := P) g (i * size) e vs 0 cur w hh (by rw [hvl]; omega) (by rw [hvs]; exact zero_one zs (by omega) h1 _)
    obtain ⟨nw, hnw⟩ : ∃ nw : List Value, nw = cur.toList.take (i * size + 0) ++ vs ++ cur.toList.drop (i * size + 0 + vs.length) := ⟨_, rfl⟩
    rw [← hnw] at hst
    have hcl : cur.toList.length = c * size := by rw [Array.length_toList, h4]
    refine ⟨w.setRow g nw.toArray, ?_, ⟨?_, .inr ⟨g, c, nw.toArray, rfl, hb, setRow_heap w g cur _ e _ hh, by omega, h3, ?_, ?_⟩⟩, ?_⟩
    · rw [hm]
      simp only [Builtin.clear_, List.getElem?_toArray, List.getElem?_cons_zero, run_underlying ht, hz, Sem.run_bind, Sem.run_pure, Result.andThen_ok, Value.cells, ← hvs, hst]
    · rw [List.length_take, hlen]
      omega
    · rw [hnw]
      simp only [List.size_toArray, List.length_append, List.length_take, List.length_drop, hcl, hvl]
      omega
    · show List.take (i * size) nw = _
      rw [hnw, Nat.add_zero, List.append_assoc, List.take_append_of_le_length (by rw [List.length_take, hcl]; omega), List.take_take, Nat.min_self, ← h5, List.take_take, Nat.min_eq_left (by omega)]
    · exact ⟨rfl, rfl, rfl, by simp, fun k _ hk => setRow_other w g k _ (fun e => hk (by simp [e]))⟩
/-- An element taken to a place ahead. -/
theorem put_take {α : Type} {M l : List α} {p : α → Bool} {i j : Nat} {x : α} (hi : i < j) (hj : j < l.length) (hM : M.length = l.length) (h1 : M.take i = (l.take j).filter p) (h2 : M.drop j = l.drop j) (hx : l[j]? = some x) (hp : p x = true) :
    (M.set i x).length = l.length ∧ (M.set i x).take (i + 1) = (l.take (j + 1)).filter p ∧ (M.set i x).drop (j + 1) = l.drop (j + 1) := by
  refine ⟨by simp [hM], ?_, ?_⟩
  · have ht : l.take (j + 1) = l.take j ++ [x] := by
      rw [List.take_add_one, hx]; rfl
    rw [ht, List.filter_append, ← h1]
    have hf : [x].filter p = [x] := by simp [hp]
    rw [hf, List.take_add_one, List.getElem?_set_self (by omega), List.take_set_of_le (Nat.le_refl _)]
    rfl
  · rw [List.drop_set_of_lt (by omega)]
    have e1 : M.drop (j + 1) = (M.drop j).drop 1 := by rw [List.drop_drop]
    have e2 : l.drop (j + 1) = (l.drop j).drop 1 := by rw [List.drop_drop]
    rw [e1, e2, h2]
theorem skip_take {α : Type} {M l : List α} {p : α → Bool} {i j : Nat} {x : α} (h1 : M.take i = (l.take j).filter p) (h2 : M.drop j = l.drop j) (hx : l[j]? = some x) (hp : p x = false) :
    M.take i = (l.take (j + 1)).filter p ∧ M.drop (j + 1) = l.drop (j + 1) := by
  refine ⟨?_, ?_⟩
  · have ht : l.take (j + 1) = l.take j ++ [x] := by
      rw [List.take_add_one, hx]; rfl
    rw [ht, List.filter_append, ← h1]
    have hf : [x].filter p = [] := by simp [hp]
    rw [hf, List.append_nil]
  · have e1 : M.drop (j + 1) = (M.drop j).drop 1 := by rw [List.drop_drop]
    have e2 : l.drop (j + 1) = (l.drop j).drop 1 := by rw [List.drop_drop]
    rw [e1, e2, h2]
/-- Where the first one is that holds a condition. -/
def gidx {α : Type} (l : List α) (p : α → Bool) : Int := if l.findIdx p < l.length then (l.findIdx p : Int) else -1
theorem gidx_at {α : Type} {l : List α} {p : α → Bool} {k : Nat} {x : α} (hx : l[k]? = some x) (hp : p x = true) (hn : ∀ (j : Nat) (y : α), j < k → l[j]? = some y → p y = false) : gidx l p = k := by
  obtain ⟨hk, he⟩ := List.getElem?_eq_some_iff.1 hx
  have : l.findIdx p = k := by
    rw [List.findIdx_eq hk]
    exact ⟨by rw [he]; exact hp, fun j hj => hn j _ hj (List.getElem?_eq_getElem (by omega))⟩
  unfold gidx
  rw [this, if_pos hk]
theorem gidx_no {α : Type} {l : List α} {p : α → Bool} (hn : ∀ (j : Nat) (y : α), l[j]? = some y → p y = false) : gidx l p = -1 := by
  unfold gidx
  rw [if_neg]
  intro h
  have := List.findIdx_getElem (w := h)
  rw [hn _ _ (List.getElem?_eq_getElem h)] at this
  cases this
theorem gidx_cases {α : Type} (l : List α) (p : α → Bool) : (gidx l p = -1 ∧ l.filter (fun x => !p x) = l) ∨ ∃ (k : Nat) (x : α), gidx l p = (k : Int) ∧ l[k]? = some x ∧ p x = true ∧ (l.take k).filter (fun x => !p x) = l.take k := by
  by_cases h : l.findIdx p < l.length
  · right
    refine ⟨l.findIdx p, l[l.findIdx p], ?_, List.getElem?_eq_getElem h, List.findIdx_getElem, ?_⟩
    · unfold gidx; rw [if_pos h]
    · rw [List.filter_eq_self]
      intro x hx
      obtain ⟨j, hj, rfl⟩ := List.getElem_of_mem hx
      rw [List.length_take] at hj
      rw [List.getElem_take]
      have := List.not_of_lt_findIdx (p := p) (xs := l) (i := j) (by omega)
      simpa using this
  · left
    refine ⟨by unfold gidx; rw [if_neg h], ?_⟩
    rw [List.filter_eq_self]
    intro x hx
    obtain ⟨j, hj, rfl⟩ := List.getElem_of_mem hx
    have := List.not_of_lt_findIdx (p := p) (xs := l) (i := j) (by omega)
    simpa using this
/-- Cells that are read from an address on. -/
def Rd (w : World) (A : Option Addr) (cs : List Value) : Prop := 0 < cs.length → ∃ b off, A = some ⟨b, off, none⟩ ∧ ∀ (j : Nat) (u : Value), cs[j]? = some u → w.cell? ⟨b, off + j, none⟩ = some u
theorem Rd.below {w w' : World} {A : Option Addr} {cs : List Value} (h : Rd w A cs) (hb : Below w.heap.size w w') : Rd w' A cs := by
  intro h0
  obtain ⟨b, off, hA, hc⟩ := h h0
  exact ⟨b, off, hA, fun j u hu => (Same.of_below hb).cell (hc j u hu)⟩
theorem Rd.none {w : World} {cs : List Value} (h : Rd w none cs) : cs = [] := by
  cases cs with
  | nil => rfl
  | cons c cs => obtain ⟨b, off, hA, _⟩ := h (by simp); cases hA
theorem prp_len (p : Prp) : (Prp.cells p).length = 4 := rfl
def sval (s : ByteArray) : List Value := [.string s]
theorem sval_len (s : ByteArray) : (sval s).length = 1 := rfl
theorem sval_map (l : List ByteArray) : l.flatMap sval = l.map Value.string := by
  induction l with
  | nil => rfl
  | cons x l ih => rw [List.flatMap_cons, ih]; rfl
/-- A slice that can be read, cell by cell. -/
theorem rd_of {e : TypeId} {α : Type} {d : Kd Try.prog e α} {vals : α → List Value} {size : Nat} (hv : ∀ x, (vals x).length = size) (hs : 0 < size) (hc : Try.prog.cellsOf e = size) (hr : ∀ w x cs, d.rel w x cs → cs = vals x)
    {w : World} {A : Option Addr} {l : List α} (h : SliceIs d w A l) : Rd w A (l.flatMap vals) := by
  intro h0
  rw [fl_len hv] at h0
  obtain ⟨b, off, hA, -, hcc⟩ := h.at_ (Nat.pos_of_mul_pos_right h0 |> fun _ => by
    rcases Nat.eq_zero_or_pos l.length with h1 | h1
    · rw [h1, Nat.zero_mul] at h0; omega
    · exact h1)
  refine ⟨b, off, hA, fun j u hu => ?_⟩
  have e1 : j = j / size * size + j % size := by rw [Nat.mul_comm]; exact (Nat.div_add_mod j size).symm
  rw [e1, fl_get hv l _ _ (Nat.mod_lt _ hs)] at hu
  cases hx : l[j / size]? with
  | none => rw [hx] at hu; cases hu
  | some x =>
    rw [hx] at hu
    obtain ⟨cs, hrel, hcell⟩ := hcc _ x hx
    rw [hr w x cs hrel] at hcell
    have := hcell _ u hu
    rw [hc] at this
    rw [show off + j = off + j / size * size + j % size by omega]
    exact this
theorem rd_items {w : World} {A : Option Addr} {l : List Tc.It} (h : SliceIs kItem w A l) : Rd w A (l.flatMap It.vals) := rd_of vals_len (by decide) cellsItem (fun w x cs hr => ((kItem_rel _ _ _).1 hr).1) h
theorem rd_props {w : World} {A : Option Addr} {l : List Prp} (h : SliceIs kProp w A l) : Rd w A (l.flatMap Prp.cells) := rd_of prp_len (by decide) cellsProp (fun w x cs hr => ((kProp_rel _ _ _).1 hr).1) h
theorem rd_texts {w : World} {A : Option Addr} {l : List ByteArray} (h : SliceIs aS w A l) : Rd w A (l.flatMap sval) := rd_of (d := aS) sval_len (by decide) cellsStr (fun w x cs hr => (show cs = [.string x] ∧ x.size ≤ maxLen from hr).1) h
theorem prp_one (l : List Prp) : ∀ u ∈ l.flatMap Prp.cells, u.oneCell' = true := by
  intro u hu
  rw [List.mem_flatMap] at hu
  obtain ⟨x, _, hx⟩ := hu
  simp [Prp.cells] at hx
  rcases hx with rfl | rfl | rfl | rfl <;> rfl
theorem itm_one (l : List Tc.It) : ∀ u ∈ l.flatMap It.vals, u.oneCell' = true := by
  intro u hu
  rw [List.mem_flatMap] at hu
  obtain ⟨x, _, hx⟩ := hu
  simp [It.vals] at hx
  rcases hx with rfl | rfl | rfl | rfl | rfl | rfl | rfl | rfl | rfl | rfl | rfl | rfl <;> rfl
theorem txt_one (l : List ByteArray) : ∀ u ∈ l.flatMap sval, u.oneCell' = true := by
  intro u hu
  rw [List.mem_flatMap] at hu
  obtain ⟨x, _, hx⟩ := hu
  simp [sval] at hx
  rw [hx]
  rfl
theorem info113 : (Try.prog.info? 113).map (fun i => (i.zero, i.size, i.bytes)) = some (some (.agg #[.int .i64 0, .int .i64 0, .string ByteArray.empty, .string ByteArray.empty]), 4, 48) := by kernel_rfl
theorem info9 : (Try.prog.info? 9).map (fun i => (i.zero, i.size, i.bytes)) = some (some (.string ByteArray.empty), 1, 16) := by kernel_rfl
set_option maxRecDepth 100000 in
set_option maxHeartbeats 2000000 in
theorem cloneI_any (w : World) (A : Option Addr) (cap : Nat) (l : List Tc.It) (hS : Rd w A (l.flatMap It.vals)) (hl : l.length < 1000000) :
    Calls Try.prog 92 #[.slice A l.length cap] w fun e w' => (∃ v, e = .returned v ∧ w'.ownsRow 0 45 12 v l.length (l.flatMap It.vals) ∧ ∀ g, v.ownBlock = some g → w.heap.size ≤ g) ∧ Below w.heap.size w w' := by
  generalize hP : (fun (e : Ending) (w' : World) => (∃ v, e = .returned v ∧ w'.ownsRow 0 45 12 v l.length (l.flatMap It.vals) ∧ ∀ g, v.ownBlock = some g → w.heap.size ≤ g) ∧ Below w.heap.size w w') = PP
  have HPP := Lib.hid (show ∀ (v : Value) (w' : World), w'.ownsRow 0 45 12 v l.length (l.flatMap It.vals) → (∀ g, v.ownBlock = some g → w.heap.size ≤ g) → Below w.heap.size w w' → PP (.returned v) w' by
    intro v w' h hg hb
    rw [← hP]
    exact ⟨⟨v, rfl, h, hg⟩, hb⟩)
  clear hP
  have heq := fun w => Lib.run_eql_slice_nil (P := Try.prog) w 37 45 A l.length cap 0 0 Try.underlying37
  cases A with
  | none =>
    have h0 : l = [] := by
      have h1 := hS.none
      have h2 := fl_len vals_len l
      rw [h1] at h2
      exact List.eq_nil_of_length_eq_zero (by simp at h2; omega)
    subst h0
    have HE := Lib.hid (HPP.out _ w (own_nil w 45 12) (by intro g hg; simp [Value.ownBlock] at hg) (Below.refl _ _))
    clear hS
    simp only [Option.isNone_none, List.length_nil] at heq
    go_enter Try.func92, Try.ntmps92
    go_wp2
    exact HE.out
  | some a =>
    simp only [Option.isNone_some] at heq
    obtain ⟨i0, hi, hz0, hz1, hz2⟩ := info_parts LaneW.info45
    have hb := alloc_below w (.cells #[] 45)
    have hown : (w.alloc (.cells #[] 45)).ownsRow 0 45 12 (.slice (some ⟨w.heap.size, 0, none⟩) 0 0) 0 [] := by simpa using World.ownsRow_lit (base := 0) (e := 45) (size := 12) w #[] 0 (Nat.zero_le _) (Nat.zero_le _) rfl
    have hS2 := hS.below hb
    obtain ⟨v', w', hr, ho, ht, hloc⟩ := append_list (P := Try.prog) (ty := 37) Try.underlying37 hi hz0 hz1 hz2 rfl (by decide) hown (some a) l.length cap (l.flatMap It.vals) (fl_len vals_len l) (fun hn => by
      obtain ⟨b, off, hA, hc⟩ := hS2 (by rw [fl_len vals_len]; omega)
      exact ⟨_, hA, fun j u hu => by rw [add_plain]; exact hc j u hu⟩) (itm_one l) (by unfold maxLen; omega) (by omega)
    have hnew : ∀ g, v'.ownBlock = some g → w.heap.size ≤ g := by
      intro g hg
      rcases hloc g hg with h | h
      · have : w.heap.size = g := by simpa [Value.ownBlock] using h
        omega
      · have := hb.size
        omega
    have hbel : Below w.heap.size w w' := hb.trans (ht.below (by simp) (by intro i hi; have : i = w.heap.size := by simpa [Value.ownBlock] using hi
                                                                           omega))
    have HE := Lib.hid (HPP.out _ w' (by simpa using ho) hnew hbel)
    have HRUN := Lib.hid hr
    clear hS hi hz0 hz1 hz2 hb hown hS2 hr ho ht hloc hbel hnew
    go_enter Try.func92, Try.ntmps92
    go_wp2_with (at_builtin; refine wpList_append_eq rfl _ _ _ rfl rfl rfl HRUN.out ?_)
    exact HE.out
set_option maxRecDepth 100000 in
set_option maxHeartbeats 2000000 in
theorem cloneP_any (w : World) (A : Option Addr) (cap : Nat) (l : List Prp) (hS : Rd w A (l.flatMap Prp.cells)) (hl : l.length < 1000000) :
    Calls Try.prog 93 #[.slice A l.length cap] w fun e w' => (∃ v, e = .returned v ∧ w'.ownsRow 0 113 4 v l.length (l.flatMap Prp.cells) ∧ ∀ g, v.ownBlock = some g → w.heap.size ≤ g) ∧ Below w.heap.size w w' := by
  generalize hP : (fun (e : Ending) (w' : World) => (∃ v, e = .returned v ∧ w'.ownsRow 0 113 4 v l.length (l.flatMap Prp.cells) ∧ ∀ g, v.ownBlock = some g → w.heap.size ≤ g) ∧ Below w.heap.size w w') = PP
  have HPP := Lib.hid (show ∀ (v : Value) (w' : World), w'.ownsRow 0 113 4 v l.length (l.flatMap Prp.cells) → (∀ g, v.ownBlock = some g → w.heap.size ≤ g) → Below w.heap.size w w' → PP (.returned v) w' by
    intro v w' h hg hb
    rw [← hP]
    exact ⟨⟨v, rfl, h, hg⟩, hb⟩)
  clear hP
  have heq := fun w => Lib.run_eql_slice_nil (P := Try.prog) w 41 113 A l.length cap 0 0 Try.underlying41
  cases A with
  | none =>
    have h0 : l = [] := by
      have h1 := hS.none
      have h2 := fl_len prp_len l
      rw [h1] at h2
      exact List.eq_nil_of_length_eq_zero (by simp at h2; omega)
    subst h0
    have HE := Lib.hid (HPP.out _ w (own_nil w 113 4) (by intro g hg; simp [Value.ownBlock] at hg) (Below.refl _ _))
    clear hS
    simp only [Option.isNone_none, List.length_nil] at heq
    go_enter Try.func93, Try.ntmps93
    go_wp2
    exact HE.out
  | some a =>
    simp only [Option.isNone_some] at heq
    obtain ⟨i0, hi, hz0, hz1, hz2⟩ := info_parts info113
    have hb := alloc_below w (.cells #[] 113)
    have hown : (w.alloc (.cells #[] 113)).ownsRow 0 113 4 (.slice (some ⟨w.heap.size, 0, none⟩) 0 0) 0 [] := by simpa using World.ownsRow_lit (base := 0) (e := 113) (size := 4) w #[] 0 (Nat.zero_le _) (Nat.zero_le _) rfl
    have hS2 := hS.below hb
    obtain ⟨v', w', hr, ho, ht, hloc⟩ := append_list (P := Try.prog) (ty := 41) Try.underlying41 hi hz0 hz1 hz2 rfl (by decide) hown (some a) l.length cap (l.flatMap Prp.cells) (fl_len prp_len l) (fun hn => by
      obtain ⟨b, off, hA, hc⟩ := hS2 (by rw [fl_len prp_len]; omega)
      exact ⟨_, hA, fun j u hu => by rw [add_plain]; exact hc j u hu⟩) (prp_one l) (by unfold maxLen; omega) (by omega)
    have hnew : ∀ g, v'.ownBlock = some g → w.heap.size ≤ g := by
      intro g hg
      rcases hloc g hg with h | h
      · have : w.heap.size = g := by simpa [Value.ownBlock] using h
        omega
      · have := hb.size
        omega
    have hbel : Below w.heap.size w w' := hb.trans (ht.below (by simp) (by intro i hi; have : i = w.heap.size := by simpa [Value.ownBlock] using hi
                                                                           omega))
    have HE := Lib.hid (HPP.out _ w' (by simpa using ho) hnew hbel)
    have HRUN := Lib.hid hr
    clear hS hi hz0 hz1 hz2 hb hown hS2 hr ho ht hloc hbel hnew
    go_enter Try.func93, Try.ntmps93
    go_wp2_with (at_builtin; refine wpList_append_eq rfl _ _ _ rfl rfl rfl HRUN.out ?_)
    exact HE.out
set_option maxRecDepth 100000 in
set_option maxHeartbeats 2000000 in
theorem cloneS_any (w : World) (A : Option Addr) (cap : Nat) (l : List ByteArray) (hS : Rd w A (l.flatMap sval)) (hl : l.length < 1000000) :
    Calls Try.prog 109 #[.slice A l.length cap] w fun e w' => (∃ v, e = .returned v ∧ w'.ownsRow 0 9 1 v l.length (l.flatMap sval) ∧ ∀ g, v.ownBlock = some g → w.heap.size ≤ g) ∧ Below w.heap.size w w' := by
  generalize hP : (fun (e : Ending) (w' : World) => (∃ v, e = .returned v ∧ w'.ownsRow 0 9 1 v l.length (l.flatMap sval) ∧ ∀ g, v.ownBlock = some g → w.heap.size ≤ g) ∧ Below w.heap.size w w') = PP
  have HPP := Lib.hid (show ∀ (v : Value) (w' : World), w'.ownsRow 0 9 1 v l.length (l.flatMap sval) → (∀ g, v.ownBlock = some g → w.heap.size ≤ g) → Below w.heap.size w w' → PP (.returned v) w' by
    intro v w' h hg hb
    rw [← hP]
    exact ⟨⟨v, rfl, h, hg⟩, hb⟩)
  clear hP
  have heq := fun w => Lib.run_eql_slice_nil (P := Try.prog) w 26 9 A l.length cap 0 0 Try.underlying26
  cases A with
  | none =>
    have h0 : l = [] := by
      have h1 := hS.none
      have h2 := fl_len sval_len l
      rw [h1] at h2
      exact List.eq_nil_of_length_eq_zero (by simp at h2; omega)
    subst h0
    have HE := Lib.hid (HPP.out _ w (own_nil w 9 1) (by intro g hg; simp [Value.ownBlock] at hg) (Below.refl _ _))
    clear hS
    simp only [Option.isNone_none, List.length_nil] at heq
    go_enter Try.func109, Try.ntmps109
    go_wp2
    exact HE.out
  | some a =>
    simp only [Option.isNone_some] at heq
    obtain ⟨i0, hi, hz0, hz1, hz2⟩ := info_parts info9
    have hb := alloc_below w (.cells #[] 9)
    have hown : (w.alloc (.cells #[] 9)).ownsRow 0 9 1 (.slice (some ⟨w.heap.size, 0, none⟩) 0 0) 0 [] := by simpa using World.ownsRow_lit (base := 0) (e := 9) (size := 1) w #[] 0 (Nat.zero_le _) (Nat.zero_le _) rfl
    have hS2 := hS.below hb
    obtain ⟨v', w', hr, ho, ht, hloc⟩ := append_list (P := Try.prog) (ty := 26) Try.underlying26 hi hz0 hz1 hz2 rfl (by decide) hown (some a) l.length cap (l.flatMap sval) (fl_len sval_len l) (fun hn => by
      obtain ⟨b, off, hA, hc⟩ := hS2 (by rw [fl_len sval_len]; omega)
      exact ⟨_, hA, fun j u hu => by rw [add_plain]; exact hc j u hu⟩) (txt_one l) (by unfold maxLen; omega) (by omega)
    have hnew : ∀ g, v'.ownBlock = some g → w.heap.size ≤ g := by
      intro g hg
      rcases hloc g hg with h | h
      · have : w.heap.size = g := by simpa [Value.ownBlock] using h
        omega
      · have := hb.size
        omega
    have hbel : Below w.heap.size w w' := hb.trans (ht.below (by simp) (by intro i hi; have : i = w.heap.size := by simpa [Value.ownBlock] using hi
                                                                           omega))
    have HE := Lib.hid (HPP.out _ w' (by simpa using ho) hnew hbel)
    have HRUN := Lib.hid hr
    clear hS hi hz0 hz1 hz2 hb hown hS2 hr ho ht hloc hbel hnew
    go_enter Try.func109, Try.ntmps109
    go_wp2_with (at_builtin; refine wpList_append_eq rfl _ _ _ rfl rfl rfl HRUN.out ?_)
    exact HE.out
theorem text_cell {w : World} {A : Option Addr} {l : List ByteArray} (h : SliceIs aS w A l) {k : Nat} {x : ByteArray} (hx : l[k]? = some x) : ∃ b off, A = some ⟨b, off, none⟩ ∧ w.cell? ⟨b, off + k, none⟩ = some (.string x) := by
  have hlt := (List.getElem?_eq_some_iff.1 hx).1
  obtain ⟨b, off, hA, -, hc⟩ := h.at_ (by omega)
  obtain ⟨cs, ⟨rfl, -⟩, hcell⟩ := hc k x hx
  have := hcell 0 _ rfl
  rw [cellsStr, Nat.mul_one, Nat.add_zero] at this
  exact ⟨b, off, hA, this⟩
set_option maxRecDepth 100000 in
set_option maxHeartbeats 2000000 in
theorem indexI0_any (F : FuncId)  (q : Tc.It → Bool) (hE : ∀ args w, (callFunc F args).run Try.prog w = .ok (.enter F args) w) (w : World)
    (l : List Tc.It) (hF : ∀ (x : Tc.It) (W : World), x ∈ l → Below w.heap.size w W → Calls Try.prog F #[x.val] W fun e w' => e = .returned (.bool (q x)) ∧ Below W.heap.size W w')
    (A : Option Addr) (cap : Nat) (hS : SliceIs kItem w A l) :
    Calls Try.prog 105 #[.slice A l.length cap, .func (.func F) #[] #[]] w fun e w' => e = .returned (.int .i64 (gidx l q)) ∧ Below w.heap.size w w' := by
  have hlen := hS.len
  unfold maxLen at hlen
  have HS := Lib.hid hS
  have HFF := Lib.hid hF
  clear hS hF
  go_enter Try.func105, Try.ntmps105
  go_wp2
  go_loopw [8] (fun x wr => ∃ k : Nat, k ≤ l.length ∧ x = .int .i64 k ∧ Below w.heap.size w wr ∧ ∀ (j : Nat) (y : Tc.It), j < k → l[j]? = some y → q y = false) (fun x _ => l.length - (intOf x).toNat)
  case atStart => exact ⟨0, by omega, rfl, Below.refl _ _, by intro j y h; omega⟩
  case round =>
    obtain ⟨k, hk, rfl, hB, hn⟩ := hrel
    have HB := Lib.hid hB
    have HN := Lib.hid hn
    clear hn
    by_cases hlt : k < l.length
    · obtain ⟨x, hx⟩ : ∃ x, l[k]? = some x := ⟨_, List.getElem?_eq_getElem hlt⟩
      obtain ⟨b', off, rfl, -, ⟨g0, g1, g2, g3, g4, g5, g6, g7, g8, g9, g10, g11⟩, -, -, -⟩ := item_cells (HS.out.below hB) hx
      have HF := Lib.hid (HFF.out x wr (List.mem_of_getElem? hx) hB)
      have HX := Lib.hid hx
      unfold It.val at HF
      clear hx hB
      cases e : q x with
      | true =>
        rw [e] at HF
        have HE := Lib.hid (gidx_at HX.out e HN.out)
        clear e
        go_wp2_with fail
        refine HF.out.mono ?_
        rintro e w2 ⟨rfl, hb⟩
        have HB2 := Lib.hid (then_below HB.out hb)
        clear hb
        go_wp2_with fail
        go_ret
        exact ⟨by rw [HE.out]; rfl, HB2.out⟩
      | false =>
        rw [e] at HF
        have HN1 := Lib.hid (show ∀ (j : Nat) (y : Tc.It), j < k + 1 → l[j]? = some y → q y = false by
          intro j y hj hy
          by_cases e2 : j = k
          · subst e2; have := HX.out; rw [hy] at this; injection this with this; rw [this]; exact e
          · exact HN.out j y (by omega) hy)
        clear e
        go_wp2_with fail
        refine HF.out.mono ?_
        rintro e w2 ⟨rfl, hb⟩
        have HB2 := Lib.hid (then_below HB.out hb)
        clear hb
        go_wp2_with fail
        go_roundw
        case rel => exact ⟨k + 1, by omega, by go_num, HB2.out, HN1.out⟩
        case measure => simp [intOf]; omega
    · obtain rfl : k = l.length := by omega
      have HE := Lib.hid (gidx_no (fun j y hy => HN.out j y (List.getElem?_eq_some_iff.1 hy).1 hy))
      clear hB
      go_wp2
      go_ret
      exact ⟨by rw [HE.out]; rfl, HB.out⟩
set_option maxRecDepth 100000 in
set_option maxHeartbeats 2000000 in
theorem indexI1_any (F : FuncId) (c0 : Nat) (q : Tc.It → Bool) (hE : ∀ args w, (callFunc F args).run Try.prog w = .ok (.enter F args) w) (w : World)
    (l : List Tc.It) (hF : ∀ (x : Tc.It) (W : World), x ∈ l → Below w.heap.size w W → Calls Try.prog F #[x.val, .pointer (some ⟨c0, 0, none⟩)] W fun e w' => e = .returned (.bool (q x)) ∧ Below W.heap.size W w')
    (A : Option Addr) (cap : Nat) (hS : SliceIs kItem w A l) :
    Calls Try.prog 105 #[.slice A l.length cap, .func (.func F) #[] #[.pointer (some ⟨c0, 0, none⟩)]] w fun e w' => e = .returned (.int .i64 (gidx l q)) ∧ Below w.heap.size w w' := by
  have hlen := hS.len
  unfold maxLen at hlen
  have HS := Lib.hid hS
  have HFF := Lib.hid hF
  clear hS hF
  go_enter Try.func105, Try.ntmps105
  go_wp2
  go_loopw [8] (fun x wr => ∃ k : Nat, k ≤ l.length ∧ x = .int .i64 k ∧ Below w.heap.size w wr ∧ ∀ (j : Nat) (y : Tc.It), j < k → l[j]? = some y → q y = false) (fun x _ => l.length - (intOf x).toNat)
  case atStart => exact ⟨0, by omega, rfl, Below.refl _ _, by intro j y h; omega⟩
  case round =>
    obtain ⟨k, hk, rfl, hB, hn⟩ := hrel
    have HB := Lib.hid hB
    have HN := Lib.hid hn
    clear hn
    by_cases hlt : k < l.length
    · obtain ⟨x, hx⟩ : ∃ x, l[k]? = some x := ⟨_, List.getElem?_eq_getElem hlt⟩
      obtain ⟨b', off, rfl, -, ⟨g0, g1, g2, g3, g4, g5, g6, g7, g8, g9, g10, g11⟩, -, -, -⟩ := item_cells (HS.out.below hB) hx
      have HF := Lib.hid (HFF.out x wr (List.mem_of_getElem? hx) hB)
      have HX := Lib.hid hx
      unfold It.val at HF
      clear hx hB
      cases e : q x with
      | true =>
        rw [e] at HF
        have HE := Lib.hid (gidx_at HX.out e HN.out)
        clear e
        go_wp2_with fail
        refine HF.out.mono ?_
        rintro e w2 ⟨rfl, hb⟩
        have HB2 := Lib.hid (then_below HB.out hb)
        clear hb
        go_wp2_with fail
        go_ret
        exact ⟨by rw [HE.out]; rfl, HB2.out⟩
      | false =>
        rw [e] at HF
        have HN1 := Lib.hid (show ∀ (j : Nat) (y : Tc.It), j < k + 1 → l[j]? = some y → q y = false by
          intro j y hj hy
          by_cases e2 : j = k
          · subst e2; have := HX.out; rw [hy] at this; injection this with this; rw [this]; exact e
          · exact HN.out j y (by omega) hy)
        clear e
        go_wp2_with fail
        refine HF.out.mono ?_
        rintro e w2 ⟨rfl, hb⟩
        have HB2 := Lib.hid (then_below HB.out hb)
        clear hb
        go_wp2_with fail
        go_roundw
        case rel => exact ⟨k + 1, by omega, by go_num, HB2.out, HN1.out⟩
        case measure => simp [intOf]; omega
    · obtain rfl : k = l.length := by omega
      have HE := Lib.hid (gidx_no (fun j y hy => HN.out j y (List.getElem?_eq_some_iff.1 hy).1 hy))
      clear hB
      go_wp2
      go_ret
      exact ⟨by rw [HE.out]; rfl, HB.out⟩
set_option maxRecDepth 100000 in
set_option maxHeartbeats 2000000 in
theorem indexI2_any (F : FuncId) (c0 : Nat) (c1 : Nat) (q : Tc.It → Bool) (hE : ∀ args w, (callFunc F args).run Try.prog w = .ok (.enter F args) w) (w : World)
    (l : List Tc.It) (hF : ∀ (x : Tc.It) (W : World), x ∈ l → Below w.heap.size w W → Calls Try.prog F #[x.val, .pointer (some ⟨c0, 0, none⟩), .pointer (some ⟨c1, 0, none⟩)] W fun e w' => e = .returned (.bool (q x)) ∧ Below W.heap.size W w')
    (A : Option Addr) (cap : Nat) (hS : SliceIs kItem w A l) :
    Calls Try.prog 105 #[.slice A l.length cap, .func (.func F) #[] #[.pointer (some ⟨c0, 0, none⟩), .pointer (some ⟨c1, 0, none⟩)]] w fun e w' => e = .returned (.int .i64 (gidx l q)) ∧ Below w.heap.size w w' := by
  have hlen := hS.len
  unfold maxLen at hlen
  have HS := Lib.hid hS
  have HFF := Lib.hid hF
  clear hS hF
  go_enter Try.func105, Try.ntmps105
  go_wp2
  go_loopw [8] (fun x wr => ∃ k : Nat, k ≤ l.length ∧ x = .int .i64 k ∧ Below w.heap.size w wr ∧ ∀ (j : Nat) (y : Tc.It), j < k → l[j]? = some y → q y = false) (fun x _ => l.length - (intOf x).toNat)
  case atStart => exact ⟨0, by omega, rfl, Below.refl _ _, by intro j y h; omega⟩
  case round =>
    obtain ⟨k, hk, rfl, hB, hn⟩ := hrel
    have HB := Lib.hid hB
    have HN := Lib.hid hn
    clear hn
    by_cases hlt : k < l.length
    · obtain ⟨x, hx⟩ : ∃ x, l[k]? = some x := ⟨_, List.getElem?_eq_getElem hlt⟩
      obtain ⟨b', off, rfl, -, ⟨g0, g1, g2, g3, g4, g5, g6, g7, g8, g9, g10, g11⟩, -, -, -⟩ := item_cells (HS.out.below hB) hx
      have HF := Lib.hid (HFF.out x wr (List.mem_of_getElem? hx) hB)
      have HX := Lib.hid hx
      unfold It.val at HF
      clear hx hB
      cases e : q x with
      | true =>
        rw [e] at HF
        have HE := Lib.hid (gidx_at HX.out e HN.out)
        clear e
        go_wp2_with fail
        refine HF.out.mono ?_
        rintro e w2 ⟨rfl, hb⟩
        have HB2 := Lib.hid (then_below HB.out hb)
        clear hb
        go_wp2_with fail
        go_ret
        exact ⟨by rw [HE.out]; rfl, HB2.out⟩
      | false =>
        rw [e] at HF
        have HN1 := Lib.hid (show ∀ (j : Nat) (y : Tc.It), j < k + 1 → l[j]? = some y → q y = false by
          intro j y hj hy
          by_cases e2 : j = k
          · subst e2; have := HX.out; rw [hy] at this; injection this with this; rw [this]; exact e
          · exact HN.out j y (by omega) hy)
        clear e
        go_wp2_with fail
        refine HF.out.mono ?_
        rintro e w2 ⟨rfl, hb⟩
        have HB2 := Lib.hid (then_below HB.out hb)
        clear hb
        go_wp2_with fail
        go_roundw
        case rel => exact ⟨k + 1, by omega, by go_num, HB2.out, HN1.out⟩
        case measure => simp [intOf]; omega
    · obtain rfl : k = l.length := by omega
      have HE := Lib.hid (gidx_no (fun j y hy => HN.out j y (List.getElem?_eq_some_iff.1 hy).1 hy))
      clear hB
      go_wp2
      go_ret
      exact ⟨by rw [HE.out]; rfl, HB.out⟩
set_option maxRecDepth 100000 in
set_option maxHeartbeats 2000000 in
theorem indexS_any (F : FuncId) (c0 : Nat) (q : ByteArray → Bool) (hE : ∀ args w, (callFunc F args).run Try.prog w = .ok (.enter F args) w) (w : World)
    (l : List ByteArray) (hF : ∀ (x : ByteArray) (W : World), x ∈ l → Below w.heap.size w W → Calls Try.prog F #[.string x, .pointer (some ⟨c0, 0, none⟩)] W fun e w' => e = .returned (.bool (q x)) ∧ Below W.heap.size W w')
    (A : Option Addr) (cap : Nat) (hS : SliceIs aS w A l) :
    Calls Try.prog 121 #[.slice A l.length cap, .func (.func F) #[] #[.pointer (some ⟨c0, 0, none⟩)]] w fun e w' => e = .returned (.int .i64 (gidx l q)) ∧ Below w.heap.size w w' := by
  have hlen := hS.len
  unfold maxLen at hlen
  have HS := Lib.hid hS
  have HFF := Lib.hid hF
  clear hS hF
  go_enter Try.func121, Try.ntmps121
  go_wp2
  go_loopw [8] (fun x wr => ∃ k : Nat, k ≤ l.length ∧ x = .int .i64 k ∧ Below w.heap.size w wr ∧ ∀ (j : Nat) (y : ByteArray), j < k → l[j]? = some y → q y = false) (fun x _ => l.length - (intOf x).toNat)
  case atStart => exact ⟨0, by omega, rfl, Below.refl _ _, by intro j y h; omega⟩
  case round =>
    obtain ⟨k, hk, rfl, hB, hn⟩ := hrel
    have HB := Lib.hid hB
    have HN := Lib.hid hn
    clear hn
    by_cases hlt : k < l.length
    · obtain ⟨x, hx⟩ : ∃ x, l[k]? = some x := ⟨_, List.getElem?_eq_getElem hlt⟩
      obtain ⟨b', off, rfl, g0⟩ := text_cell (HS.out.below hB) hx
      have HF := Lib.hid (HFF.out x wr (List.mem_of_getElem? hx) hB)
      have HX := Lib.hid hx
      skip
      clear hx hB
      cases e : q x with
      | true =>
        rw [e] at HF
        have HE := Lib.hid (gidx_at HX.out e HN.out)
        clear e
        go_wp2_with fail
        refine HF.out.mono ?_
        rintro e w2 ⟨rfl, hb⟩
        have HB2 := Lib.hid (then_below HB.out hb)
        clear hb
        go_wp2_with fail
        go_ret
        exact ⟨by rw [HE.out]; rfl, HB2.out⟩
      | false =>
        rw [e] at HF
        have HN1 := Lib.hid (show ∀ (j : Nat) (y : ByteArray), j < k + 1 → l[j]? = some y → q y = false by
          intro j y hj hy
          by_cases e2 : j = k
          · subst e2; have := HX.out; rw [hy] at this; injection this with this; rw [this]; exact e
          · exact HN.out j y (by omega) hy)
        clear e
        go_wp2_with fail
        refine HF.out.mono ?_
        rintro e w2 ⟨rfl, hb⟩
        have HB2 := Lib.hid (then_below HB.out hb)
        clear hb
        go_wp2_with fail
        go_roundw
        case rel => exact ⟨k + 1, by omega, by go_num, HB2.out, HN1.out⟩
        case measure => simp [intOf]; omega
    · obtain rfl : k = l.length := by omega
      have HE := Lib.hid (gidx_no (fun j y hy => HN.out j y (List.getElem?_eq_some_iff.1 hy).1 hy))
      clear hB
      go_wp2
      go_ret
      exact ⟨by rw [HE.out]; rfl, HB.out⟩
end Go.Proofs.Ytclhgnlhejohgaa.GrpW
set_option linter.unusedVariables false
set_option linter.unusedSimpArgs false
namespace Go.Proofs.Ytclhgnlhejohgaa.GrpW
open Go.RowKit Go.Proofs.Ytclhgnlhejohgaa.Tc Go.Proofs.Ytclhgnlhejohgaa.GrpP

theorem zero9 (w : World) : (zeroValue 9).run Try.prog w = .ok (.string ByteArray.empty) w := by kernel_rfl
theorem zero45 (w : World) : (zeroValue 45).run Try.prog w = .ok (.agg #[.string ByteArray.empty, .string ByteArray.empty, .int .i64 0, .bool false, .slice none 0 0, .string ByteArray.empty, .int .i64 0, .int .i64 0, .string ByteArray.empty, .string ByteArray.empty, .slice none 0 0, .bool false]) w := by kernel_rfl
/-- 'clear' of a text row from the i-th element on. -/
theorem clear_texts {P : Program} {t e : TypeId} {z : Value} (ht : P.underlying t = some (.slice e)) (hz : ∀ w, (zeroValue e).run P w = .ok z w) (hc : z.cells = #[z]) (h1 : z.oneCell' = true)
    {w : World} {g n c i : Nat} {xs : List Value} (h : w.ownsRow 0 e 1 (.slice (some ⟨g, 0, none⟩) n c) n xs) (hi : i < n) :
    ∃ w', (Builtin.clear_ #[t] 0 #[.slice (some ⟨g, i, none⟩) (n - i) (c - i)]).run P w = .ok (.tuple #[]) w' ∧ w'.ownsRow 0 e 1 (.slice (some ⟨g, 0, none⟩) i c) i (xs.take i) ∧ Tch [g] w w' := by
  rcases h.2 with ⟨h0, _⟩ | ⟨g', cap, cur, hv, hb, hh, h2, h3, h4, h5⟩
  · cases h0
  · injection hv with h6 h7 h8
    injection h6 with h6
    injection h6 with h6
    subst h6
    subst h8
    have hlen := h.1
    obtain ⟨m, hm⟩ : ∃ m, n - i = m + 1 := ⟨n - i - 1, by omega⟩
    obtain ⟨vs, hvs⟩ : ∃ vs, vs = (Builtin.zeroCells #[z] (m + 1)).toList := ⟨_, rfl⟩
    have hvl : vs.length = m + 1 := by rw [hvs, Array.length_toList, size_zeroCells]; simp
    have hst := run_storeCells_at (P := P) g i e vs 0 cur w hh (by rw [hvl]; omega) (by
      rw [hvs]
      exact zero_one #[z] (by simp) (by intro u hu; simp at hu; rw [hu]; exact h1) _)
    obtain ⟨nw, hnw⟩ : ∃ nw : List Value, nw = cur.toList.take (i + 0) ++ vs ++ cur.toList.drop (i + 0 + vs.length) := ⟨_, rfl⟩
    rw [← hnw] at hst
    have hcl : cur.toList.length = c := by rw [Array.length_toList, h4, Nat.mul_one]
    refine ⟨w.setRow g nw.toArray, ?_, ⟨?_, .inr ⟨g, c, nw.toArray, rfl, hb, setRow_heap w g cur _ e _ hh, by omega, h3, ?_, ?_⟩⟩, ?_⟩
    · rw [hm]
      simp only [Builtin.clear_, List.getElem?_toArray, List.getElem?_cons_zero, run_underlying ht, hz, Sem.run_bind, Sem.run_pure, Result.andThen_ok, hc, ← hvs, hst]
    · rw [List.length_take, hlen]
      omega
    · rw [hnw]
      simp only [List.size_toArray, List.length_append, List.length_take, List.length_drop, hcl, hvl]
      omega
    · show List.take (i * 1) nw = _
      rw [hnw, Nat.add_zero, Nat.mul_one, List.append_assoc, List.take_append_of_le_length (by rw [List.length_take, hcl]; omega), List.take_take, Nat.min_self, ← h5, List.take_take, Nat.min_eq_left (by omega)]
    · exact ⟨rfl, rfl, rfl, by simp, fun k _ hk => setRow_other w g k _ (fun e => hk (by simp [e]))⟩
/-- One text laid over another. -/
theorem own_puts {w : World} {g c n : Nat} {M : List ByteArray} (h : w.ownsRow 0 9 1 (.slice (some ⟨g, 0, none⟩) n c) n (M.flatMap sval)) (hn : n = M.length) {k : Nat} (hk : k < M.length) (x : ByteArray) :
    (w.setCell ⟨g, k, none⟩ (.string x)).ownsRow 0 9 1 (.slice (some ⟨g, 0, none⟩) n c) n ((M.set k x).flatMap sval) ∧ Tch [g] w (w.setCell ⟨g, k, none⟩ (.string x)) := by
  have := own_set' (vals := sval) sval_len hn h (List.getElem?_eq_getElem hk) (y := x) 0 (by decide) (.string x) rfl
  simpa using this
/-- A row of texts can be read. -/
theorem own_text {w : World} {v : Value} {n : Nat} {M : List ByteArray} (h : w.ownsRow 0 9 1 v n (M.flatMap sval)) {k : Nat} {x : ByteArray} (hx : M[k]? = some x) : ∃ g c, v = .slice (some ⟨g, 0, none⟩) n c ∧ w.cell? ⟨g, k, none⟩ = some (.string x) := by
  have hlt := (List.getElem?_eq_some_iff.1 hx).1
  have hl := h.1
  rw [fl_len sval_len] at hl
  obtain ⟨g, c, rfl, -, hc⟩ := own_cells h (by omega)
  refine ⟨g, c, rfl, hc k _ ?_⟩
  rw [sval_map, List.getElem?_map, hx]
  rfl
theorem own_texts {w : World} {v : Value} {M : List ByteArray} (h : w.ownsRow 0 9 1 v M.length (M.flatMap sval)) (hM : ∀ x ∈ M, x.size ≤ maxLen) : ∃ A c, v = .slice A M.length c ∧ SliceIs aS w A M := by
  obtain ⟨A, c, rfl⟩ := own_form h
  refine ⟨A, c, rfl, ⟨own_le h, fun hn => ?_⟩⟩
  obtain ⟨g, c', hv, -, hc⟩ := own_cells h hn
  injection hv with hA
  subst hA
  refine ⟨g, 0, rfl, own_lt h (g := g) rfl, fun i x hi => ⟨[.string x], ⟨rfl, hM x (List.mem_of_getElem? hi)⟩, fun j u hu => ?_⟩⟩
  have hj : j = 0 := by
    have := (List.getElem?_eq_some_iff.1 hu).1
    simpa using this
  subst hj
  rw [cellsStr, Nat.zero_add, Nat.mul_one, Nat.add_zero]
  refine hc i u ?_
  rw [sval_map, List.getElem?_map, hi]
  exact hu
set_option maxRecDepth 100000 in
set_option maxHeartbeats 4000000 in
theorem deleteS_any (F : FuncId) (b : Nat) (q : ByteArray → Bool) (hE : ∀ args w, (callFunc F args).run Try.prog w = .ok (.enter F args) w)
    (w : World) (v : Value) (l : List ByteArray) (hS : w.ownsRow 0 9 1 v l.length (l.flatMap sval)) (hlen : l.length < 1000000) (hM : ∀ x ∈ l, x.size ≤ maxLen)
    (hF : ∀ (x : ByteArray) (W : World), x ∈ l → Tch v.ownBlock.toList w W → Calls Try.prog F #[.string x, .pointer (some ⟨b, 0, none⟩)] W fun e w' => e = .returned (.bool (q x)) ∧ Below W.heap.size W w') :
    Calls Try.prog 108 #[v, .func (.func F) #[] #[.pointer (some ⟨b, 0, none⟩)]] w fun e w' => (∃ v', e = .returned v' ∧ w'.ownsRow 0 9 1 v' (l.filter fun x => !q x).length ((l.filter fun x => !q x).flatMap sval) ∧ ∀ g, v'.ownBlock = some g → v.ownBlock = some g) ∧ Tch v.ownBlock.toList w w' := by
  generalize hP : (fun (e : Ending) (w' : World) => (∃ v', e = .returned v' ∧ w'.ownsRow 0 9 1 v' (l.filter fun x => !q x).length ((l.filter fun x => !q x).flatMap sval) ∧ ∀ g, v'.ownBlock = some g → v.ownBlock = some g) ∧ Tch v.ownBlock.toList w w') = PP
  have HPP := Lib.hid (show ∀ (v' : Value) (w' : World), w'.ownsRow 0 9 1 v' (l.filter fun x => !q x).length ((l.filter fun x => !q x).flatMap sval) → (∀ g, v'.ownBlock = some g → v.ownBlock = some g) → Tch v.ownBlock.toList w w' → PP (.returned v') w' by
    intro v' w' h hg hb
    rw [← hP]
    exact ⟨⟨v', rfl, h, hg⟩, hb⟩)
  clear hP
  obtain ⟨A0, c0, rfl, hR⟩ := own_texts hS hM
  have HI := Lib.hid (indexS_any F b q hE w l (fun x W hx hb => hF x W hx (Tch.of_below hb)) A0 c0 hR)
  have HS := Lib.hid hS
  have HFF := Lib.hid hF
  rcases gidx_cases l q with ⟨h1, h2⟩ | ⟨i0, x0, h1, h2, h3, h4⟩
  · rw [h1] at HI
    rw [h2] at HPP
    clear h1 h2 hS hF hR
    go_enter Try.func108, Try.ntmps108
    go_wp2_with fail
    refine HI.out.mono ?_
    rintro e w2 ⟨rfl, hb⟩
    have HE := Lib.hid (HPP.out _ w2 (own_kept HS.out (Tch.of_below (S := []) hb) (by simp)) (fun g hg => hg) (Tch.of_below hb))
    clear hb
    go_wp2_with fail
    exact HE.out
  · rw [h1] at HI
    have hi0 := (List.getElem?_eq_some_iff.1 h2).1
    obtain ⟨g, c, hv, -, -⟩ := own_cells hS (by omega)
    injection hv with hv1 hv2 hv3
    subst hv1 hv3
    have hlc : l.length ≤ c0 ∧ c0 ≤ maxLen := by
      rcases hS.2 with ⟨h0, _⟩ | ⟨g', cap, cur, hv, hb, hh, q1, q2, q3, q4⟩
      · cases h0
      · injection hv with h5 h6 h7
        subst h7
        exact ⟨q1, q2⟩
    obtain ⟨hlc, hcm⟩ := hlc
    unfold maxLen at hcm
    have hne1 : ((i0 : Int) == -1) = false := beq_eq_false_iff_ne.2 (by omega)
    have HX0 := Lib.hid (show (l.take i0).filter (fun x => !q x) = l.take i0 ∧ l[i0]? = some x0 ∧ q x0 = true from ⟨h4, h2, h3⟩)
    clear h1 h2 h3 h4 hS hF hR hv2
    change Hid (∀ (x : ByteArray) (W : World), x ∈ l → Tch [g] w W → Calls Try.prog F #[.string x, .pointer (some ⟨b, 0, none⟩)] W fun e w' => e = .returned (.bool (q x)) ∧ Below W.heap.size W w') at HFF
    go_enter Try.func108, Try.ntmps108
    go_wp2_with fail
    refine HI.out.mono ?_
    rintro e w2 ⟨rfl, hb⟩
    have HB := Lib.hid hb
    clear hb HI
    go_wp2_with fail
    go_loopw [5, 6] (fun x y wr => ∃ (i j : Nat) (M : List ByteArray), i < j ∧ j ≤ l.length ∧ x = .int .i64 i ∧ y = .int .i64 j ∧ M.length = l.length ∧ M.take i = (l.take j).filter (fun x => !q x) ∧ M.drop j = l.drop j ∧ wr.ownsRow 0 9 1 (.slice (some ⟨g, 0, none⟩) l.length c0) l.length (M.flatMap sval) ∧ Tch [g] w wr) (fun _ y _ => l.length - (intOf y).toNat)
    case atStart =>
      obtain ⟨q1, q2, q3⟩ := HX0.out
      obtain ⟨r1, r2⟩ := skip_take (M := l) (l := l) (p := fun x => !q x) (i := i0) (j := i0) q1.symm rfl q2 (by simp [q3])
      exact ⟨i0, i0 + 1, l, by omega, by omega, rfl, by go_num, rfl, r1, r2, own_kept HS.out (Tch.of_below (S := []) HB.out) (by simp), Tch.of_below HB.out⟩
    case round =>
      obtain ⟨i, j, M, hij, hj, rfl, rfl, hM, hM1, hM2, hown, hT⟩ := hrel
      have HT := Lib.hid hT
      have HO := Lib.hid hown
      have HM := Lib.hid (show M.length = l.length ∧ M.take i = (l.take j).filter (fun x => !q x) ∧ M.drop j = l.drop j from ⟨hM, hM1, hM2⟩)
      by_cases hlt : j < l.length
      · obtain ⟨x, hx⟩ : ∃ x, l[j]? = some x := ⟨_, List.getElem?_eq_getElem hlt⟩
        have hMx : M[j]? = some x := by
          have : (M.drop j)[0]? = (l.drop j)[0]? := by rw [hM2]
          rw [List.getElem?_drop, List.getElem?_drop, Nat.add_zero, hx] at this
          exact this
        obtain ⟨g', c', hv, c1⟩ := own_text hown hMx
        injection hv with hv hv2 hv3
        injection hv with hv
        injection hv with hv
        subst hv hv3
        clear hv2
        have HX := Lib.hid hx
        have hF3 := HFF.out x wr (List.mem_of_getElem? hx) hT
        have HF3 := Lib.hid hF3
        clear hM hM1 hM2 hown hT hx hMx hF3
        cases hq : q x with
        | true =>
          rw [hq] at HF3
          obtain ⟨m1, m2, m3⟩ := HM.out
          have HK := Lib.hid (skip_take (p := fun x => !q x) m2 m3 HX.out (by simp [hq]))
          clear hq m1 m2 m3
          go_wp2_with fail
          refine HF3.out.mono ?_
          rintro e w4 ⟨rfl, hb4⟩
          have HT4 := Lib.hid (HT.out.trans (Tch.of_below hb4))
          have HO4 := Lib.hid (own_kept HO.out (Tch.of_below (S := []) hb4) (by simp))
          clear hb4
          go_wp2_with fail
          go_roundw
          case rel => exact ⟨i, j + 1, M, by omega, by omega, rfl, by go_num, HM.out.1, HK.out.1, HK.out.2, HO4.out, HT4.out⟩
          case measure => simp [intOf]; omega
        | false =>
          rw [hq] at HF3
          obtain ⟨m1, m2, m3⟩ := HM.out
          have HK := Lib.hid (put_take (p := fun x => !q x) hij hlt m1 m2 m3 HX.out (by simp [hq]))
          clear hq
          go_wp2_with fail
          refine HF3.out.mono ?_
          rintro e w4 ⟨rfl, hb4⟩
          have HT4 := Lib.hid (HT.out.trans (Tch.of_below hb4))
          have ho4 := own_kept HO.out (Tch.of_below (S := []) hb4) (by simp)
          have him : i < M.length := by omega
          obtain ⟨y, hy⟩ : ∃ y, M[i]? = some y := ⟨_, List.getElem?_eq_getElem him⟩
          obtain ⟨g', c', hv', hfz, hcell⟩ := own_cells ho4 (by omega)
          injection hv' with hv1' hv2' hv3'
          injection hv1' with hv1'
          injection hv1' with hv1'
          subst hv1' hv3'
          clear hv2'
          have s0 : w4.cell? ⟨g, i, none⟩ = some (.string y) := hcell i _ (by rw [sval_map, List.getElem?_map, hy]; rfl)
          have fz0 := hfz i
          have HP := Lib.hid (own_puts ho4 m1.symm him x)
          have hi1 : (i : Int) < l.length := by omega
          clear ho4 hb4 hcell hy m1 m2 m3 hfz
          go_wp2_with fail
          go_roundw
          case rel => exact ⟨i + 1, j + 1, M.set i x, by omega, by omega, by go_num, by go_num, HK.out.1, HK.out.2.1, HK.out.2.2, HP.out.1, HT4.out.trans HP.out.2⟩
          case measure => simp [intOf]; omega
      · obtain rfl : j = l.length := by omega
        obtain ⟨m1, m2, m3⟩ := HM.out
        rw [List.take_length] at m2
        obtain ⟨w3, hr, ho3, ht3⟩ := clear_texts (P := Try.prog) Try.underlying26 zero9 rfl rfl HO.out (i := i) hij
        have hfl : i = (l.filter fun x => !q x).length := by rw [← m2, List.length_take]; omega
        have hft := fl_take sval_len M i
        rw [Nat.mul_one] at hft
        rw [hft, m2] at ho3
        have HE := Lib.hid (HPP.out (.slice (some ⟨g, 0, none⟩) i c0) w3 (by rw [← hfl]; exact ho3) (fun g' hg => by simpa [Value.ownBlock] using hg) (by
          have := HT.out.trans ht3
          exact this))
        have HRUN := Lib.hid hr
        have hic : i ≤ c0 := by omega
        have hci : ¬ c0 = i := by omega
        have hi2 : (i : Int) ≤ l.length := by omega
        have hi3 : (l.length : Int) ≤ c0 := by omega
        have hi4 : (i : Int) ≤ c0 := by omega
        clear hown hT m1 m2 m3 ho3 ht3 hfl hM1 hM2 hft
        go_wp2_with (at_builtin; refine wpList_clear_eq rfl rfl _ _ rfl rfl HRUN.out ?_)
        exact HE.out
end Go.Proofs.Ytclhgnlhejohgaa.GrpW
set_option linter.unusedVariables false
set_option linter.unusedSimpArgs false
namespace Go.Proofs.Ytclhgnlhejohgaa.GrpW
open Go.RowKit Go.Proofs.Ytclhgnlhejohgaa.Tc Go.Proofs.Ytclhgnlhejohgaa.GrpP

def zitem : List Value := [.string ByteArray.empty, .string ByteArray.empty, .int .i64 0, .bool false, .slice none 0 0, .string ByteArray.empty, .int .i64 0, .int .i64 0, .string ByteArray.empty, .string ByteArray.empty, .slice none 0 0, .bool false]
/-- 'clear' of the one item behind n. -/
theorem clear_spare {w : World} {g n c : Nat} {xs : List Value} (h : w.ownsRow 0 45 12 (.slice (some ⟨g, 0, none⟩) n c) n xs) (hc : n + 1 ≤ c) :
    ∃ w', (Builtin.clear_ #[37] 0 #[.slice (some ⟨g, n * 12, none⟩) 1 (c - n)]).run Try.prog w = .ok (.tuple #[]) w' ∧ w'.ownsRow 0 45 12 (.slice (some ⟨g, 0, none⟩) n c) n xs ∧ Tch [g] w w' := by
  rcases h.2 with ⟨h0, _⟩ | ⟨g', cap, cur, hv, hb, hh, h1, h2, h3, h4⟩
  · cases h0
  · injection hv with h5 h6 h7
    injection h5 with h5
    injection h5 with h5
    subst h5
    subst h7
    have hlen := h.1
    have hzl : zitem.length = 12 := rfl
    have hst := run_storeCells_at (P := Try.prog) g (n * 12) 45 zitem 0 cur w hh (by rw [hzl]; omega) (by
      intro v hv
      simp [zitem] at hv
      rcases hv with rfl | rfl | rfl | rfl | rfl | rfl | rfl | rfl | rfl | rfl | rfl | rfl <;> rfl)
    obtain ⟨nw, hnw⟩ : ∃ nw : List Value, nw = cur.toList.take (n * 12 + 0) ++ zitem ++ cur.toList.drop (n * 12 + 0 + zitem.length) := ⟨_, rfl⟩
    rw [← hnw] at hst
    refine ⟨w.setRow g nw.toArray, ?_, ⟨hlen, .inr ⟨g, c, nw.toArray, rfl, hb, setRow_heap w g cur _ 45 _ hh, h1, h2, ?_, ?_⟩⟩, ?_⟩
    · have hzc : (Builtin.zeroCells zitem.toArray 1).toList = zitem := by kernel_rfl
      have hz := zero45 w
      rw [show (#[.string ByteArray.empty, .string ByteArray.empty, .int .i64 0, .bool false, .slice none 0 0, .string ByteArray.empty, .int .i64 0, .int .i64 0, .string ByteArray.empty, .string ByteArray.empty, .slice none 0 0, .bool false] : Array Value) = zitem.toArray from rfl] at hz
      simp only [Builtin.clear_, List.getElem?_toArray, List.getElem?_cons_zero, run_underlying Try.underlying37, hz, Sem.run_bind, Sem.run_pure, Result.andThen_ok, Value.cells, hzc, hst]
    · simp only [hnw, List.size_toArray, List.length_append, List.length_take, List.length_drop, Array.length_toList, hzl]
      omega
    · show List.take (n * 12) nw = _
      simp only [hnw, Nat.add_zero, List.append_assoc]
      rw [List.take_append_of_le_length (by simp; omega), List.take_take, Nat.min_self, h4]
    · refine ⟨rfl, rfl, rfl, by simp, fun k _ hk => setRow_other w g k _ (fun e => hk (by simp [e]))⟩
/-- slices.Clip. -/
theorem clip_any (w : World) (A : Option Addr) (n c : Nat) (hn : n ≤ c) : Calls Try.prog 104 #[.slice A n c] w fun e w' => e = .returned (.slice A n n) ∧ w = w' := by
  have h1 : (n : Int) ≤ c := by omega
  go_enter Try.func104, Try.ntmps104
  go_wp2
  all_goals go_ret
  all_goals exact ⟨rfl, rfl⟩
set_option maxRecDepth 100000 in
set_option maxHeartbeats 4000000 in
theorem deleteI_any (w : World) (g c k i : Nat) (l : List Tc.It) (h : w.ownsRow 0 45 12 (.slice (some ⟨g, 0, none⟩) l.length c) l.length (l.flatMap It.vals)) (hk : l.length = k + 1) (hi : i ≤ k) (hl : l.length < 1000000) :
    Calls Try.prog 95 #[.slice (some ⟨g, 0, none⟩) (k + 1) c, .int .i64 i, .int .i64 ((i : Int) + 1)] w fun e w' => e = .returned (.slice (some ⟨g, 0, none⟩) k c) ∧ w'.ownsRow 0 45 12 (.slice (some ⟨g, 0, none⟩) k c) k ((l.eraseIdx i).flatMap It.vals) ∧ Tch [g] w w' := by
  have hc1 : k + 1 ≤ c ∧ c ≤ maxLen := by
    rcases h.2 with ⟨h0, _⟩ | ⟨g', cap, cur, hv, hb, hh, h1, h2, h3, h4⟩
    · cases h0
    · injection hv with h5 h6 h7
      subst h7
      exact ⟨by omega, h2⟩
  obtain ⟨hc1, hc2⟩ := hc1
  unfold maxLen at hc2
  have i0 : (0 : Int) ≤ i := by omega
  have i1 : (i : Int) + 1 ≤ (k : Int) + 1 := by omega
  have i2 : (k : Int) + 1 ≤ c := by omega
  have i3 : ¬ ((i : Int) = (i : Int) + 1) := by omega
  have HREG : Hid (∀ x : Wd (Dr w), ∃ w2 w3, (Builtin.append_ #[37, 37] 37 #[.slice (some ⟨g, 0, none⟩) i c, .slice (if c = i + 1 then some ⟨g, 0, none⟩ else some ⟨g, (i + 1) * 12, none⟩) (k - i) (c - (i + 1))]).run Try.prog x.w = .ok (.slice (some ⟨g, 0, none⟩) k c) w2 ∧
      (Builtin.clear_ #[37] 0 #[.slice (some ⟨g, k * 12, none⟩) 1 (c - k)]).run Try.prog w2 = .ok (.tuple #[]) w3 ∧ w3.ownsRow 0 45 12 (.slice (some ⟨g, 0, none⟩) k c) k ((l.eraseIdx i).flatMap It.vals) ∧ Tch [g] w w3) := Lib.hid (by
    intro x
    obtain ⟨W, hW⟩ := x
    have hx : W.ownsRow 0 45 12 (.slice (some ⟨g, 0, none⟩) l.length c) l.length (l.flatMap It.vals) := own_kept h (S := []) (Tch.of_below hW.below) (by simp)
    obtain ⟨t0, hi0, hz0, hz1, hz2⟩ := info_parts LaneW.info45
    have htake := own_take (k := i) hx (by omega)
    rw [fl_take vals_len] at htake
    obtain ⟨ad, had, hsrc⟩ : ∃ ad : Addr, (if c = i + 1 then some (⟨g, 0, none⟩ : Addr) else some ⟨g, (i + 1) * 12, none⟩) = some ad ∧ (0 < k - i → ad = ⟨g, (i + 1) * 12, none⟩) := by
      by_cases e : c = i + 1
      · rw [if_pos e]; exact ⟨_, rfl, by intro h; omega⟩
      · rw [if_neg e]; exact ⟨_, rfl, fun _ => rfl⟩
    rw [had]
    have hnews : ∀ j u, ((l.drop (i + 1)).flatMap It.vals)[j]? = some u → W.cell? (ad.add j) = some u := by
      intro j u hu
      have hj0 := (List.getElem?_eq_some_iff.1 hu).1
      rw [fl_len vals_len, List.length_drop] at hj0
      rw [hsrc (by omega), add_plain]
      obtain ⟨g', c', hv, hf, hcell⟩ := own_cells hx (by omega)
      injection hv with hv
      injection hv with hv
      injection hv with hv
      subst hv
      have e1 : j = j / 12 * 12 + j % 12 := by omega
      rw [e1, fl_get vals_len _ _ _ (by omega), List.getElem?_drop] at hu
      rw [show (i + 1) * 12 + j = (i + 1 + j / 12) * 12 + j % 12 by omega]
      exact hcell _ u (by rw [fl_get vals_len _ _ _ (by omega)]; exact hu)
    obtain ⟨w2, hr2, ho2, hg2⟩ := run_append_own_spare (P := Try.prog) (w := W) 0 37 37 45 t0 12 Try.underlying37 hi0 hz1 g i c _ htake ad (k - i) (c - (i + 1)) _ (by rw [fl_len vals_len, List.length_drop]; omega) hnews (itm_one _) (by omega)
    have her : l.take i ++ l.drop (i + 1) = l.eraseIdx i := (List.eraseIdx_eq_take_drop_succ l i).symm
    have hlen : (l.eraseIdx i).length = k := by rw [List.length_eraseIdx, if_pos (by omega)]; omega
    rw [show i + (k - i) = k by omega, ← List.flatMap_append, her] at ho2
    rw [show i + (k - i) = k by omega] at hr2
    have hrow2 := ho2
    obtain ⟨w3, hr3, hrow3, ht3⟩ := clear_spare hrow2 hc1
    exact ⟨w2, w3, hr2, hr3, hrow3, ((Tch.of_below hW.below).trans (Tch.grownBy hg2)).trans ht3⟩)
  clear h
  go_enter Try.func95, Try.ntmps95
  go_upto_region 8 with (fail)
  refine wp_region_tail (Dr w) 6 (dr_drew _) (by kernel_rfl) (by kernel_rfl) ?_
  simp only [List.take_succ_cons, List.take_zero, List.drop_succ_cons, List.drop_zero]
  repeat (go_big_quiet_step (fail))
  refine wpQuiet_nil ?_
  intro wq
  obtain ⟨w2, w3, hr2, hr3, hR, hT⟩ := HREG.out wq
  have HR2 := Lib.hid hr2
  have HR := Lib.hid hR
  have HT := Lib.hid hT
  clear hr2 hR hT HREG
  go_wp2_with (at_builtin; first | refine wpList_append_eq rfl _ _ _ rfl rfl rfl HR2.out ?_)
  all_goals go_ret
  all_goals first | exact ⟨rfl, HR.out, HT.out⟩ | (subst_vars; exact ⟨rfl, HR.out, HT.out⟩)
end Go.Proofs.Ytclhgnlhejohgaa.GrpW
