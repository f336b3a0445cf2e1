/- Queues: messages in an array, from a place on; what stays; a queue's state. -/
import Derived.Test.YtjcdkgdeoeboaaaQuF
import Derived.ArgAppend
set_option linter.unusedVariables false
set_option linter.unusedSimpArgs false
namespace Go.Proofs.Ytjcdkgdeoeboaaa.QuW
open Go.RowKit Go.Proofs.Ytjcdkgdeoeboaaa.Tc

theorem setCells_block {t : TypeId} (g : Nat) : ∀ (vs : List Value) (o : Nat) (w : World) (cur : Array Value), w.heap[g]? = some (.cells cur t (0, 0)) → o + vs.length ≤ cur.size →
    ∃ cur', (w.setCells g o vs).heap[g]? = some (.cells cur' t (0, 0)) ∧ cur'.size = cur.size ∧ (∀ k, k < o → cur'[k]? = cur[k]?) ∧ ∀ (j : Nat) (u : Value), vs[j]? = some u → cur'[o + j]? = some u
  | [], o, w, cur, h, _ => ⟨cur, h, rfl, fun _ _ => rfl, fun j u hu => by simp at hu⟩
  | v :: vs, o, w, cur, h, hl => by
    have h1 := set_of h o v
    have hsz : (cur.setIfInBounds o v).size = cur.size := by simp
    simp only [List.length_cons] at hl
    obtain ⟨cur', h2, h3, h4, h5⟩ := setCells_block g vs (o + 1) (w.setCell ⟨g, o, none⟩ v) (cur.setIfInBounds o v) h1 (by rw [hsz]; omega)
    refine ⟨cur', h2, h3.trans hsz, fun k hk => ?_, fun j u hu => ?_⟩
    · rw [h4 k (by omega), Array.getElem?_setIfInBounds_ne (by omega)]
    · cases j with
      | zero =>
        simp at hu
        subst hu
        rw [Nat.add_zero, h4 o (by omega), Array.getElem?_setIfInBounds_self_of_lt (by omega)]
      | succ j =>
        rw [show o + (j + 1) = o + 1 + j by omega]
        exact h5 j u (by simpa using hu)
theorem setCells_tch (g : Nat) : ∀ (vs : List Value) (o : Nat) (w : World), Tch [g] w (w.setCells g o vs)
  | [], _, w => Tch.refl _ w
  | v :: vs, o, w => (((Tch.refl [g] w).setCell (p := ⟨g, o, none⟩) (.inl (by simp)) v)).trans (setCells_tch g vs (o + 1) _)
/-- Messages that stand in an array of their own, from a place on. -/
def Win (w : World) (v : Value) (L : List Mg) : Prop := (v = .slice none 0 0 ∧ L = []) ∨ ∃ g o cap cur, v = .slice (some ⟨g, o, none⟩) L.length cap ∧ w.heap[g]? = some (.cells cur 24 (0, 0)) ∧ L.length ≤ cap ∧ cap ≤ maxLen ∧ o + cap * 9 ≤ cur.size ∧ ∀ (j : Nat) (u : Value), (L.flatMap Mg.vals)[j]? = some u → cur[o + j]? = some u
theorem Win.nil (w : World) : Win w (.slice none 0 0) [] := .inl ⟨rfl, rfl⟩
theorem win_own {w : World} {v : Value} {L : List Mg} (h : w.ownsRow 0 24 9 v L.length (L.flatMap Mg.vals)) : Win w v L := by
  rcases h.2 with ⟨rfl, h0⟩ | ⟨g, cap, cur, rfl, _, hh, h1, h2, h3, h4⟩
  · exact .inl ⟨rfl, List.eq_nil_of_length_eq_zero h0⟩
  · refine .inr ⟨g, 0, cap, cur, rfl, hh, h1, h2, by omega, fun j u hu => ?_⟩
    rw [Nat.zero_add]
    rw [← h4] at hu
    rw [← Array.getElem?_toList]
    rw [List.getElem?_take] at hu
    split at hu
    · exact hu
    · cases hu
theorem Win.rd {w : World} {v : Value} {L : List Mg} (h : Win w v L) : ∃ A c, v = .slice A L.length c ∧ Rd w A (L.flatMap Mg.vals) := by
  rcases h with ⟨rfl, rfl⟩ | ⟨g, o, cap, cur, rfl, hh, h1, h2, h3, h4⟩
  · exact ⟨none, 0, rfl, Rd.nil _ _⟩
  · exact ⟨_, cap, rfl, fun _ => ⟨g, o, rfl, fun j u hu => cell_of hh (h4 j u hu)⟩⟩
theorem Win.type {w : World} {v : Value} {L : List Mg} (h : Win w v L) {g : Nat} (hg : v.ownBlock = some g) : ∃ cur, w.heap[g]? = some (.cells cur 24 (0, 0)) := by
  rcases h with ⟨rfl, rfl⟩ | ⟨g', o, cap, cur, rfl, hh, h1, h2, h3, h4⟩
  · simp [Value.ownBlock] at hg
  · have : g' = g := by simpa [Value.ownBlock] using hg
    subst this
    exact ⟨cur, hh⟩
theorem Win.kept {S : List Nat} {w w' : World} {v : Value} {L : List Mg} (h : Win w v L) (ht : Tch S w w') (hs : ∀ g, v.ownBlock = some g → g ∉ S) : Win w' v L := by
  rcases h with hn | ⟨g, o, cap, cur, rfl, hh, rest⟩
  · exact .inl hn
  · exact .inr ⟨g, o, cap, cur, rfl, (ht.block g (lt_of_block hh) (hs g rfl)).trans hh, rest⟩
theorem Win.below {w w' : World} {v : Value} {L : List Mg} (h : Win w v L) (hb : Below w.heap.size w w') : Win w' v L := h.kept (Tch.of_below (S := []) hb) (by simp)
theorem Win.lt {w : World} {v : Value} {L : List Mg} (h : Win w v L) {g : Nat} (hg : v.ownBlock = some g) : g < w.heap.size := by
  obtain ⟨cur, hc⟩ := h.type hg
  exact lt_of_block hc
theorem Win.tail {w : World} {v : Value} {m : Mg} {L : List Mg} (h : Win w v (m :: L)) : ∃ g o cap, v = .slice (some ⟨g, o, none⟩) (L.length + 1) cap ∧ L.length + 1 ≤ cap ∧ cap ≤ maxLen ∧ (cap = 1 → Win w (.slice (some ⟨g, o, none⟩) 0 0) L ∧ L = []) ∧ (cap ≠ 1 → Win w (.slice (some ⟨g, o + 9, none⟩) L.length (cap - 1)) L) := by
  rcases h with ⟨_, h0⟩ | ⟨g, o, cap, cur, rfl, hh, h1, h2, h3, h4⟩
  · cases h0
  · simp only [List.length_cons] at h1
    refine ⟨g, o, cap, rfl, h1, h2, fun hc => ?_, fun hc => ?_⟩
    · obtain rfl : L = [] := List.eq_nil_of_length_eq_zero (by omega)
      exact ⟨.inr ⟨g, o, 0, cur, rfl, hh, Nat.le_refl _, by omega, by omega, fun j u hu => by simp at hu⟩, rfl⟩
    · refine .inr ⟨g, o + 9, cap - 1, cur, rfl, hh, by omega, by omega, by omega, fun j u hu => ?_⟩
      have := h4 (9 + j) u (by
        rw [List.flatMap_cons, List.getElem?_append_right (by rw [msg_len]; omega), msg_len, show 9 + j - 9 = j by omega]
        exact hu)
      rw [show o + 9 + j = o + (9 + j) by omega]
      exact this
theorem own_base {w : World} {B : Nat} {e : TypeId} {size : Nat} {v : Value} {n : Nat} {xs : List Value} (h : w.ownsRow B e size v n xs) : w.ownsRow 0 e size v n xs ∧ ∀ g, v.ownBlock = some g → B ≤ g := by
  refine ⟨⟨h.1, ?_⟩, fun g hg => (h.lt g hg).1⟩
  rcases h.2 with h0 | ⟨g, cap, cur, hv, hb, rest⟩
  · exact .inl h0
  · exact .inr ⟨g, cap, cur, hv, Nat.zero_le _, rest⟩
theorem Win.snoc {w : World} {v : Value} {L : List Mg} (h : Win w v L) (hl : L.length < 1000000) (m : Mg) :
    ∃ v' w', (Builtin.append_ #[31, 31] 31 #[v, .slice (some ⟨w.heap.size, 0, none⟩) 1 1]).run Try.prog (w.alloc (.cells m.vals.toArray 24)) = .ok v' w' ∧ Win w' v' (L ++ [m]) ∧ Tch v.ownBlock.toList w w' ∧ (∀ g, v'.ownBlock = some g → v.ownBlock = some g ∨ w.heap.size ≤ g) := by
  obtain ⟨i0, hi, y0, y1, y2⟩ := info_parts info24
  have hone : ∀ u ∈ m.vals, u.oneCell' = true := by simpa using msg_one [m]
  have hb := alloc_below w (.cells m.vals.toArray 24)
  have hnews : ∀ j u, m.vals[j]? = some u → (w.alloc (.cells m.vals.toArray 24)).cell? ((⟨w.heap.size, 0, none⟩ : Addr).add j) = some u := by
    intro j u hu
    rw [add_plain, Nat.zero_add]
    exact cell_of (heap_alloc_new w (.cells m.vals.toArray 24)) (by simpa using hu)
  rcases h with ⟨rfl, rfl⟩ | ⟨g, o, cap, cur, rfl, hh, h1, h2, h3, h4⟩
  · obtain ⟨v', w', hr, ho, ht, hloc, hsz⟩ := append_one (P := Try.prog) (ty := 31) Try.underlying31 hi y0 y1 y2 rfl (by decide) (own_nil w 24 9) (Mg.vals m) rfl hone (by unfold maxLen; omega) (by omega)
    exact ⟨v', w', hr, win_own (by simpa using ho), ht, hloc⟩
  · have hh1 := (hb.block g (lt_of_block hh)).trans hh
    by_cases hroom : L.length + 1 ≤ cap
    · have hr := run_append_room_cells (P := Try.prog) (w := w.alloc (.cells m.vals.toArray 24)) 31 31 24 i0 Try.underlying31 hi g o L.length cap ⟨w.heap.size, 0, none⟩ 1 1 m.vals (by rw [y1]; rfl) hnews hone hroom (by
          intro j hj
          rw [msg_len] at hj
          rw [y1]
          obtain ⟨u, hu⟩ : ∃ u, cur[o + L.length * 9 + j]? = some u := ⟨_, Array.getElem?_eq_getElem (by omega)⟩
          rw [cell_of hh1 hu]
          rfl) (by intro j hj; exact free_of hh1 _)
      rw [y1] at hr
      obtain ⟨cur', k1, k2, k3, k4⟩ := setCells_block g m.vals (o + L.length * 9) _ cur hh1 (by rw [msg_len]; omega)
      refine ⟨_, _, hr, .inr ⟨g, o, cap, cur', by simp, k1, by simp; omega, h2, by omega, fun j u hu => ?_⟩, ?_, fun g' hg => .inl (by simpa [Value.ownBlock] using hg)⟩
      · rw [List.flatMap_append] at hu
        rcases Nat.lt_or_ge j (L.length * 9) with hj | hj
        · rw [List.getElem?_append_left (by rw [fl_len msg_len]; exact hj)] at hu
          rw [k3 _ (by omega)]
          exact h4 j u hu
        · rw [List.getElem?_append_right (by rw [fl_len msg_len]; exact hj), fl_len msg_len] at hu
          have := k4 (j - L.length * 9) u (by simpa using hu)
          rw [show o + L.length * 9 + (j - L.length * 9) = o + j by omega] at this
          exact this
      · exact (Tch.of_below (S := [g]) hb).trans (setCells_tch g _ _ _)
    · obtain ⟨v', w', hr, ho, hg⟩ := run_append_arg_grows (P := Try.prog) (w := w.alloc (.cells m.vals.toArray 24)) 31 31 24 i0 _ 9 120 Try.underlying31 hi y0 y1 y2 rfl (by decide) ⟨g, o, none⟩ L.length cap (L.flatMap Mg.vals) (fl_len msg_len L) (by
          intro j u hu
          rw [add_plain]
          exact cell_of hh1 (h4 j u hu)) ⟨w.heap.size, 0, none⟩ 1 1 m.vals rfl hnews (by omega) (by unfold maxLen; omega) (by omega)
      obtain ⟨ho0, hn⟩ := own_base ho
      have hs := hb.size
      refine ⟨v', w', hr, win_own (by simpa using ho0), ?_, fun g' hg' => .inr (by have := hn g' hg'; omega)⟩
      exact (Tch.of_below hb).grown hg (fun k hk => by cases hk)
/-! ### What stays -/
/-- A block that is never written: an argument's, or one of properties. -/
def Fix (B : Nat) (w : World) (k : Nat) : Prop := k < B ∨ ∃ cur f, w.heap[k]? = some (.cells cur 56 f)
structure Stp (B : Nat) (w w' : World) : Prop where
  os : w'.os = w.os
  tape : w'.tape = w.tape
  output : w'.output = w.output
  size : w.heap.size ≤ w'.heap.size
  block : ∀ k, k < w.heap.size → Fix B w k → w'.heap[k]? = w.heap[k]?
theorem Stp.refl (B : Nat) (w : World) : Stp B w w := ⟨rfl, rfl, rfl, Nat.le_refl _, fun _ _ _ => rfl⟩
theorem Fix.stp {B : Nat} {w w' : World} {k : Nat} (h : Fix B w k) (hk : k < w.heap.size) (st : Stp B w w') : Fix B w' k := by
  have := st.block k hk h
  rcases h with h | ⟨cur, f, hc⟩
  · exact .inl h
  · exact .inr ⟨cur, f, this.trans hc⟩
theorem Stp.trans {B : Nat} {a b c : World} (h : Stp B a b) (k : Stp B b c) : Stp B a c :=
  ⟨k.os.trans h.os, k.tape.trans h.tape, k.output.trans h.output, Nat.le_trans h.size k.size, fun i hi hf => (k.block i (Nat.lt_of_lt_of_le hi h.size) (hf.stp hi h)).trans (h.block i hi hf)⟩
theorem Stp.of_below {B : Nat} {w w' : World} (h : Below w.heap.size w w') : Stp B w w' := ⟨h.os, h.tape, h.output, h.size, fun k hk _ => h.block k hk⟩
theorem Stp.of_tch {S : List Nat} {B : Nat} {w w' : World} (h : Tch S w w') (hS : ∀ i ∈ S, ¬ Fix B w i) : Stp B w w' := ⟨h.os, h.tape, h.output, h.size, fun k hk hf => h.block k hk (fun hm => hS k hm hf)⟩
theorem Stp.below {B : Nat} {w w' : World} (h : Stp B w w') (hB : B ≤ w.heap.size) : Below B w w' := ⟨h.os, h.tape, h.output, h.size, fun k hk => h.block k (by omega) (.inl hk)⟩
/-- A message as it is known: its properties are read, and stay. -/
structure Ok (B : Nat) (w : World) (m : Mg) : Prop where
  rd : Rd w m.pA (m.props.flatMap Prp.cells)
  fx : ∀ ad, m.pA = some ad → 0 < m.props.length → Fix B w ad.block
  wf : (Lit.int .i64 m.until_).wf = true
  few : m.props.length ≤ 70
theorem Ok.stp {B : Nat} {w w' : World} {m : Mg} (h : Ok B w m) (st : Stp B w w') : Ok B w' m := by
  have hp : 0 < (m.props.flatMap Prp.cells).length → 0 < m.props.length := by rw [fl_len prp_len]; omega
  refine ⟨h.rd.block (fun ad hA h0 hlt => st.block _ hlt (h.fx ad hA (hp h0))), fun ad hA h0 => ?_, h.wf, h.few⟩
  have hlt : ad.block < w.heap.size := by
    obtain ⟨b, off, hb, hc⟩ := h.rd (by rw [fl_len prp_len]; omega)
    rw [hA] at hb
    injection hb with hb
    subst hb
    obtain ⟨u, hu⟩ : ∃ u, (m.props.flatMap Prp.cells)[0]? = some u := ⟨_, List.getElem?_eq_getElem (by rw [fl_len prp_len]; omega)⟩
    exact World.block_lt_of_cell? w _ (hc 0 u hu)
  exact (h.fx ad hA h0).stp hlt st
theorem Ok.below {B : Nat} {w w' : World} {m : Mg} (h : Ok B w m) (hb : Below w.heap.size w w') : Ok B w' m := h.stp (Stp.of_below hb)
/-- But for where the properties lie. -/
def bare (m : Mg) : Mg := { m with pA := none, pc := 0 }
theorem sim_of {a b : Mg} (h : bare a = bare b) : Sim a b := by
  obtain ⟨a0, a1, a2, a3, a4, a5, a6, a7, a8, a9, a10⟩ := a
  obtain ⟨b0, b1, b2, b3, b4, b5, b6, b7, b8, b9, b10⟩ := b
  simp only [bare, Mg.mk.injEq] at h
  obtain ⟨h0, h1, h2, h3, -, -, h6, h7, h8, h9, h10⟩ := h
  exact ⟨h0, h1, h2, h3, h6, h7, h8, h9, h10⟩
theorem Sim.bare {a b : Mg} (h : Sim a b) : bare a = bare b := by
  obtain ⟨a0, a1, a2, a3, a4, a5, a6, a7, a8, a9, a10⟩ := a
  obtain ⟨b0, b1, b2, b3, b4, b5, b6, b7, b8, b9, b10⟩ := b
  obtain ⟨h0, h1, h2, h3, h6, h7, h8, h9, h10⟩ := h
  simp only at h0 h1 h2 h3 h6 h7 h8 h9 h10
  subst h0 h1 h2 h3 h6 h7 h8 h9 h10
  rfl
theorem come_bare (m : Mg) (now : Int) : come (bare m) now = come m now := rfl
/-- A queue's state: T its struct's type. -/
structure Q (T : TypeId) (B : Nat) (w : World) (s : Nat) (most : Int) (v : Value) (L : List Mg) : Prop where
  st : w.heap[s]? = some (.cells #[.int .i64 most, v] T (0, 0))
  win : Win w v L
  ok : ∀ m ∈ L, Ok B w m
  ns : B ≤ s
  nv : ∀ g, v.ownBlock = some g → B ≤ g
theorem Q.bB {T : TypeId} {B : Nat} {w : World} {s : Nat} {most : Int} {v : Value} {L : List Mg} (h : Q T B w s most v L) : B ≤ w.heap.size := by have := lt_of_block h.st; have := h.ns; omega
theorem Q.ne {T : TypeId} {B : Nat} {w : World} {s : Nat} {most : Int} {v : Value} {L : List Mg} (h : Q T B w s most v L) (hT : 24 ≠ T) : ∀ g, v.ownBlock = some g → g ≠ s := by
  intro g hg
  obtain ⟨cur, hc⟩ := h.win.type hg
  exact type_ne hc h.st hT
/-- Neither its struct nor its array is a block that stays. -/
theorem Q.notfix {T : TypeId} {B : Nat} {w : World} {s : Nat} {most : Int} {v : Value} {L : List Mg} (h : Q T B w s most v L) (hT : T ≠ 56) : ∀ i ∈ s :: v.ownBlock.toList, ¬ Fix B w i := by
  intro i hi hf
  rcases List.mem_cons.1 hi with rfl | hi
  · rcases hf with hf | ⟨cur, f, hc⟩
    · have := h.ns; omega
    · rw [h.st] at hc; injection hc with hc; injection hc with _ hc; exact hT hc
  · have hg : v.ownBlock = some i := by simpa using hi
    rcases hf with hf | ⟨cur, f, hc⟩
    · have := h.nv i hg; omega
    · obtain ⟨cur2, hc2⟩ := h.win.type hg
      rw [hc2] at hc; injection hc with hc; injection hc with _ hc; exact absurd hc (by decide)
theorem Q.kept {T : TypeId} {B : Nat} {S : List Nat} {w w' : World} {s : Nat} {most : Int} {v : Value} {L : List Mg} (h : Q T B w s most v L) (ht : Tch S w w') (st : Stp B w w') (hs : s ∉ S) (hv : ∀ g, v.ownBlock = some g → g ∉ S) : Q T B w' s most v L :=
  ⟨(ht.block s (lt_of_block h.st) hs).trans h.st, h.win.kept ht hv, fun m hm => (h.ok m hm).stp st, h.ns, h.nv⟩
theorem Q.below {T : TypeId} {B : Nat} {w w' : World} {s : Nat} {most : Int} {v : Value} {L : List Mg} (h : Q T B w s most v L) (hb : Below w.heap.size w w') : Q T B w' s most v L := h.kept (Tch.of_below (S := []) hb) (Stp.of_below hb) (by simp) (by simp)
/-- Other messages are laid in. -/
theorem Q.put {T : TypeId} {B : Nat} {w w1 : World} {s : Nat} {most : Int} {v v' : Value} {L L' : List Mg} (h : Q T B w s most v L) (hT : 24 ≠ T) (hT2 : T ≠ 56) {S : List Nat} (ht : Tch S w w1) (hS : ∀ i ∈ S, ¬ Fix B w i) (hs : s ∉ S) (hwin : Win w1 v' L') (hok : ∀ m ∈ L', Ok B w1 m) (hnv : ∀ g, v'.ownBlock = some g → B ≤ g) :
    Q T B (w1.setCell ⟨s, 1, none⟩ v') s most v' L' ∧ Tch (s :: S) w (w1.setCell ⟨s, 1, none⟩ v') ∧ Stp B w (w1.setCell ⟨s, 1, none⟩ v') := by
  have h1 := (ht.block s (lt_of_block h.st) hs).trans h.st
  have t2 : Tch [s] w1 (w1.setCell ⟨s, 1, none⟩ v') := (Tch.refl [s] w1).setCell (p := ⟨s, 1, none⟩) (.inl (by simp)) v'
  have hnf : ∀ i ∈ [s], ¬ Fix B w1 i := by
    intro i hi hf
    obtain rfl : i = s := by simpa using hi
    rcases hf with hf | ⟨cur, f, hc⟩
    · have := h.ns; omega
    · rw [h1] at hc; injection hc with hc; injection hc with _ hc; exact hT2 hc
  have st2 : Stp B w1 (w1.setCell ⟨s, 1, none⟩ v') := Stp.of_tch t2 hnf
  have hne : ∀ g, v'.ownBlock = some g → g ∉ [s] := by
    intro g hg hm
    obtain ⟨cur, hc⟩ := hwin.type hg
    exact type_ne hc h1 hT (by simpa using hm)
  refine ⟨⟨set_of h1 1 v', hwin.kept t2 hne, fun m hm => (hok m hm).stp st2, h.ns, hnv⟩, ?_, (Stp.of_tch ht hS).trans st2⟩
  exact (ht.mono (fun i hi => List.mem_cons_of_mem _ hi)).trans (t2.mono (fun i hi => by simp at hi; simp [hi]))
end Go.Proofs.Ytjcdkgdeoeboaaa.QuW
