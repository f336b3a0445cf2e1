/- Queues: what holds a condition is found, and deleted. -/
import Derived.Test.YtjcdkgdeoeboaaaQuA
import Derived.Shelf.Abstract
import Derived.Deep.LoopGhost
import Derived.Deep.Cut
import Derived.Deep.DeepCutAuto
set_option linter.unusedVariables false
set_option linter.unusedSimpArgs false
namespace Go.Proofs.Ytjcdkgdeoeboaaa.QuW
open Go.RowKit Go.Proofs.Ytjcdkgdeoeboaaa.Tc

theorem own_set' {α : Type} {size : Nat} {vals : α → List Value} (hv : ∀ x, (vals x).length = size) {w : World} {e : TypeId} {l : List α} {g c n : Nat} (hn : n = l.length) (h : w.ownsRow 0 e size (.slice (some ⟨g, 0, none⟩) n c) n (l.flatMap vals)) {k : Nat} {x y : α} (hk : l[k]? = some x) (j : Nat) (hj : j < size) (u : Value)
    (hy : vals y = (vals x).set j u) : (w.setCell ⟨g, k * size + j, none⟩ u).ownsRow 0 e size (.slice (some ⟨g, 0, none⟩) n c) n ((l.set k y).flatMap vals) ∧ Tch [g] w (w.setCell ⟨g, k * size + j, none⟩ u) := by
  subst hn
  obtain ⟨h1, h2⟩ := own_set hv h hk j hj u hy
  exact ⟨h1, Tch.grownBy h2⟩
theorem zero_one (zs : Array Value) (h0 : 0 < zs.size) (hz : ∀ u ∈ zs.toList, u.oneCell' = true) (m : Nat) : ∀ u ∈ (Builtin.zeroCells zs m).toList, u.oneCell' = true := by
  intro u hu
  unfold Builtin.zeroCells at hu
  rw [Array.toList_map, List.mem_map] at hu
  obtain ⟨i, -, rfl⟩ := hu
  have hl : i % zs.size < zs.size := Nat.mod_lt _ h0
  rw [getElem!_pos zs (i % zs.size) hl]
  exact hz _ (by simp)
theorem wpList_clear_eq {P : Program} {w w1 : World} {ops : Array Oper} {rest : List Oper} {o : Oper} {a : Act} {Q : Exit → Act → World → Prop} (hg : o.guard = none) (hd : o.dst = none) (x : Operand) (t : TypeId)
    (ho : o.op = .call { callee := .builtin .clear, args := #[x], argTypes := #[t] }) {sl : Value} (hx : a.eval x = sl)
    (hr : (Builtin.clear_ #[t] o.type #[sl]).run P w = .ok (.tuple #[]) w1) (hK : wpList P ops Q rest a w1) : wpList P ops Q (o :: rest) a w := by
  refine wpList_plain hg fun K' hK' => ?_
  unfold Oper.wp execOp
  simp only [ho, resolve, invoke, builtin, Sem.run_bind, Sem.run_pure, Result.andThen_ok, List.map_toArray, List.map_cons, List.map_nil, hx, hr]
  have h := hK' _ _ hK
  simpa [Oper.upon, hd, Act.put] using h
/-- 'clear' of all from the i-th element on. -/
theorem clear_run {P : Program} {t e : TypeId} {size : Nat} {zs : Array Value} (ht : P.underlying t = some (.slice e)) (hz : ∀ w, (zeroValue e).run P w = .ok (.agg zs) w) (hs : zs.size = size) (hs0 : 0 < size) (h1 : ∀ u ∈ zs.toList, u.oneCell' = true)
    {w : World} {g n c i : Nat} {xs : List Value} (h : w.ownsRow 0 e size (.slice (some ⟨g, 0, none⟩) n c) n xs) (hi : i < n) :
    ∃ w', (Builtin.clear_ #[t] 0 #[.slice (some ⟨g, i * size, none⟩) (n - i) (c - i)]).run P w = .ok (.tuple #[]) w' ∧ w'.ownsRow 0 e size (.slice (some ⟨g, 0, none⟩) i c) i (xs.take (i * size)) ∧ Tch [g] w w' := by
  rcases h.2 with ⟨h0, _⟩ | ⟨g', cap, cur, hv, hb, hh, h2, h3, h4, h5⟩
  · cases h0
  · injection hv with h6 h7 h8
    injection h6 with h6
    injection h6 with h6
    subst h6
    subst h8
    have hlen := h.1
    obtain ⟨m, hm⟩ : ∃ m, n - i = m + 1 := ⟨n - i - 1, by omega⟩
    obtain ⟨vs, hvs⟩ : ∃ vs, vs = (Builtin.zeroCells zs (m + 1)).toList := ⟨_, rfl⟩
    have hvl : vs.length = (m + 1) * size := by rw [hvs, Array.length_toList, size_zeroCells, hs]
    have hmul : i * size + (m + 1) * size = n * size := by rw [← Nat.add_mul]; congr 1; omega
    have hcs : n * size ≤ c * size := Nat.mul_le_mul_right _ h2
    have hst := run_storeCells_at (P := P) g (i * size) e vs 0 cur w hh (by rw [hvl]; omega) (by rw [hvs]; exact zero_one zs (by omega) h1 _)
    obtain ⟨nw, hnw⟩ : ∃ nw : List Value, nw = cur.toList.take (i * size + 0) ++ vs ++ cur.toList.drop (i * size + 0 + vs.length) := ⟨_, rfl⟩
    rw [← hnw] at hst
    have hcl : cur.toList.length = c * size := by rw [Array.length_toList, h4]
    refine ⟨w.setRow g nw.toArray, ?_, ⟨?_, .inr ⟨g, c, nw.toArray, rfl, hb, setRow_heap w g cur _ e _ hh, by omega, h3, ?_, ?_⟩⟩, ?_⟩
    · rw [hm]
      simp only [Builtin.clear_, List.getElem?_toArray, List.getElem?_cons_zero, run_underlying ht, hz, Sem.run_bind, Sem.run_pure, Result.andThen_ok, Value.cells, ← hvs, hst]
    · rw [List.length_take, hlen]
      omega
    · rw [hnw]
      simp only [List.size_toArray, List.length_append, List.length_take, List.length_drop, hcl, hvl]
      omega
    · show List.take (i * size) nw = _
      rw [hnw, Nat.add_zero, List.append_assoc, List.take_append_of_le_length (by rw [List.length_take, hcl]; omega), List.take_take, Nat.min_self, ← h5, List.take_take, Nat.min_eq_left (by omega)]
    · exact ⟨rfl, rfl, rfl, by simp, fun k _ hk => setRow_other w g k _ (fun e => hk (by simp [e]))⟩
theorem zero56 (w : World) : (zeroValue 56).run Try.prog w = .ok (.agg #[.int .i64 0, .int .i64 0, .string ByteArray.empty, .string ByteArray.empty]) w := by kernel_rfl
theorem zero24 (w : World) : (zeroValue 24).run Try.prog w = .ok (.agg #[.string ByteArray.empty, .string ByteArray.empty, .int .i64 0, .bool false, .slice none 0 0, .string ByteArray.empty, .int .i64 0, .int .i64 0, .string ByteArray.empty]) w := by kernel_rfl
def Prp.val (p : Prp) : Value := .agg #[.int .i64 p.id, .int .i64 p.n, .string p.s, .string p.v]
/-- An element taken to a place ahead. -/
theorem put_take {α : Type} {M l : List α} {p : α → Bool} {i j : Nat} {x : α} (hi : i < j) (hj : j < l.length) (hM : M.length = l.length) (h1 : M.take i = (l.take j).filter p) (h2 : M.drop j = l.drop j) (hx : l[j]? = some x) (hp : p x = true) :
    (M.set i x).length = l.length ∧ (M.set i x).take (i + 1) = (l.take (j + 1)).filter p ∧ (M.set i x).drop (j + 1) = l.drop (j + 1) := by
  refine ⟨by simp [hM], ?_, ?_⟩
  · have ht : l.take (j + 1) = l.take j ++ [x] := by
      rw [List.take_add_one, hx]; rfl
    rw [ht, List.filter_append, ← h1]
    have hf : [x].filter p = [x] := by simp [hp]
    rw [hf, List.take_add_one, List.getElem?_set_self (by omega), List.take_set_of_le (Nat.le_refl _)]
    rfl
  · rw [List.drop_set_of_lt (by omega)]
    have e1 : M.drop (j + 1) = (M.drop j).drop 1 := by rw [List.drop_drop]
    have e2 : l.drop (j + 1) = (l.drop j).drop 1 := by rw [List.drop_drop]
    rw [e1, e2, h2]
theorem skip_take {α : Type} {M l : List α} {p : α → Bool} {i j : Nat} {x : α} (h1 : M.take i = (l.take j).filter p) (h2 : M.drop j = l.drop j) (hx : l[j]? = some x) (hp : p x = false) :
    M.take i = (l.take (j + 1)).filter p ∧ M.drop (j + 1) = l.drop (j + 1) := by
  refine ⟨?_, ?_⟩
  · have ht : l.take (j + 1) = l.take j ++ [x] := by
      rw [List.take_add_one, hx]; rfl
    rw [ht, List.filter_append, ← h1]
    have hf : [x].filter p = [] := by simp [hp]
    rw [hf, List.append_nil]
  · have e1 : M.drop (j + 1) = (M.drop j).drop 1 := by rw [List.drop_drop]
    have e2 : l.drop (j + 1) = (l.drop j).drop 1 := by rw [List.drop_drop]
    rw [e1, e2, h2]
/-- Where the first one is that holds a condition. -/
def fidx {α : Type} (l : List α) (p : α → Bool) : Int := if l.findIdx p < l.length then (l.findIdx p : Int) else -1
theorem fidx_at {α : Type} {l : List α} {p : α → Bool} {k : Nat} {x : α} (hx : l[k]? = some x) (hp : p x = true) (hn : ∀ (j : Nat) (y : α), j < k → l[j]? = some y → p y = false) : fidx l p = k := by
  obtain ⟨hk, he⟩ := List.getElem?_eq_some_iff.1 hx
  have : l.findIdx p = k := by
    rw [List.findIdx_eq hk]
    exact ⟨by rw [he]; exact hp, fun j hj => hn j _ hj (List.getElem?_eq_getElem (by omega))⟩
  unfold fidx
  rw [this, if_pos hk]
theorem fidx_no {α : Type} {l : List α} {p : α → Bool} (hn : ∀ (j : Nat) (y : α), l[j]? = some y → p y = false) : fidx l p = -1 := by
  unfold fidx
  rw [if_neg]
  intro h
  have := List.findIdx_getElem (w := h)
  rw [hn _ _ (List.getElem?_eq_getElem h)] at this
  cases this
theorem fidx_cases {α : Type} (l : List α) (p : α → Bool) : (fidx l p = -1 ∧ l.filter (fun x => !p x) = l) ∨ ∃ (k : Nat) (x : α), fidx l p = (k : Int) ∧ l[k]? = some x ∧ p x = true ∧ (l.take k).filter (fun x => !p x) = l.take k := by
  by_cases h : l.findIdx p < l.length
  · right
    refine ⟨l.findIdx p, l[l.findIdx p], ?_, List.getElem?_eq_getElem h, List.findIdx_getElem, ?_⟩
    · unfold fidx; rw [if_pos h]
    · rw [List.filter_eq_self]
      intro x hx
      obtain ⟨j, hj, rfl⟩ := List.getElem_of_mem hx
      rw [List.length_take] at hj
      rw [List.getElem_take]
      have := List.not_of_lt_findIdx (p := p) (xs := l) (i := j) (by omega)
      simpa using this
  · left
    refine ⟨by unfold fidx; rw [if_neg h], ?_⟩
    rw [List.filter_eq_self]
    intro x hx
    obtain ⟨j, hj, rfl⟩ := List.getElem_of_mem hx
    have := List.not_of_lt_findIdx (p := p) (xs := l) (i := j) (by omega)
    simpa using this
theorem rd_tch {w w' : World} {g : Nat} {b : Nat} {v : Value} (h : Tch [g] w w') (hc : w.cell? ⟨b, 0, none⟩ = some v) (hne : b ≠ g) : w'.cell? ⟨b, 0, none⟩ = some v :=
  (World.cell?_of_block (a := ⟨b, 0, none⟩) (h.block b (World.block_lt_of_cell? w _ hc) (by simpa using hne))).trans hc
set_option maxRecDepth 100000 in
set_option maxHeartbeats 2000000 in
theorem indexP_any (F : FuncId) (b : Nat) (cv : Value) (q : Prp → Bool) (hE : ∀ args w, (callFunc F args).run Try.prog w = .ok (.enter F args) w)
    (hF : ∀ (x : Prp) (W : World), W.cell? ⟨b, 0, none⟩ = some cv → Calls Try.prog F #[Prp.val x, .pointer (some ⟨b, 0, none⟩)] W fun e w' => e = .returned (.bool (q x)) ∧ Below W.heap.size W w')
    (w : World) (A : Option Addr) (cap : Nat) (l : List Prp) (hS : Rd w A (l.flatMap Prp.cells)) (hlen : l.length < 1000000) (hc : w.cell? ⟨b, 0, none⟩ = some cv) :
    Calls Try.prog 40 #[.slice A l.length cap, .func (.func F) #[] #[.pointer (some ⟨b, 0, none⟩)]] w fun e w' => e = .returned (.int .i64 (fidx l q)) ∧ Below w.heap.size w w' := by
  have HS := Lib.hid hS
  have HC := Lib.hid hc
  have HFF := Lib.hid hF
  clear hS hc hF
  go_enter Try.func40, Try.ntmps40
  go_wp2
  go_loopw [8] (fun x wr => ∃ k : Nat, k ≤ l.length ∧ x = .int .i64 k ∧ Below w.heap.size w wr ∧ ∀ (j : Nat) (y : Prp), j < k → l[j]? = some y → q y = false) (fun x _ => l.length - (intOf x).toNat)
  case atStart => exact ⟨0, by omega, rfl, Below.refl _ _, by intro j y h; omega⟩
  case round =>
    obtain ⟨k, hk, rfl, hB, hn⟩ := hrel
    have HB := Lib.hid hB
    have HN := Lib.hid hn
    clear hn
    by_cases hlt : k < l.length
    · obtain ⟨x, hx⟩ : ∃ x, l[k]? = some x := ⟨_, List.getElem?_eq_getElem hlt⟩
      obtain ⟨b', off, rfl, c0, c1, c2, c3⟩ := rd_prp (HS.out.below hB) hx
      have HF := Lib.hid (HFF.out x wr ((Same.of_below hB).cell HC.out))
      have HX := Lib.hid hx
      unfold Prp.val at HF
      clear hx hB
      cases e : q x with
      | true =>
        rw [e] at HF
        have HE := Lib.hid (fidx_at HX.out e HN.out)
        clear e
        go_wp2_with fail
        refine HF.out.mono ?_
        rintro e w2 ⟨rfl, hb⟩
        have HB2 := Lib.hid (then_below HB.out hb)
        clear hb
        go_wp2_with fail
        go_ret
        exact ⟨by rw [HE.out]; rfl, HB2.out⟩
      | false =>
        rw [e] at HF
        have HN1 := Lib.hid (show ∀ (j : Nat) (y : Prp), j < k + 1 → l[j]? = some y → q y = false by
          intro j y hj hy
          by_cases e2 : j = k
          · subst e2; have := HX.out; rw [hy] at this; injection this with this; rw [this]; exact e
          · exact HN.out j y (by omega) hy)
        clear e
        go_wp2_with fail
        refine HF.out.mono ?_
        rintro e w2 ⟨rfl, hb⟩
        have HB2 := Lib.hid (then_below HB.out hb)
        clear hb
        go_wp2_with fail
        go_roundw
        case rel => exact ⟨k + 1, by omega, by go_num, HB2.out, HN1.out⟩
        case measure => simp [intOf]; omega
    · obtain rfl : k = l.length := by omega
      have HE := Lib.hid (fidx_no (fun j y hy => HN.out j y (List.getElem?_eq_some_iff.1 hy).1 hy))
      clear hB
      go_wp2
      go_ret
      exact ⟨by rw [HE.out]; rfl, HB.out⟩
/-- One element laid over another. -/
theorem own_putP {w : World} {g c n : Nat} {M : List Prp} (h : w.ownsRow 0 56 4 (.slice (some ⟨g, 0, none⟩) n c) n (M.flatMap Prp.cells)) (hn : n = M.length) {k : Nat} (hk : k < M.length) (x : Prp) :
    (((((w).setCell ⟨g, k * 4, none⟩ (.int .i64 x.id)).setCell ⟨g, k * 4 + 1, none⟩ (.int .i64 x.n)).setCell ⟨g, k * 4 + 2, none⟩ (.string x.s)).setCell ⟨g, k * 4 + 3, none⟩ (.string x.v)).ownsRow 0 56 4 (.slice (some ⟨g, 0, none⟩) n c) n ((M.set k x).flatMap Prp.cells) ∧ Tch [g] w (((((w).setCell ⟨g, k * 4, none⟩ (.int .i64 x.id)).setCell ⟨g, k * 4 + 1, none⟩ (.int .i64 x.n)).setCell ⟨g, k * 4 + 2, none⟩ (.string x.s)).setCell ⟨g, k * 4 + 3, none⟩ (.string x.v)) := by
  obtain ⟨y0, hy0⟩ : ∃ y, M[k]? = some y := ⟨_, List.getElem?_eq_getElem hk⟩
  obtain ⟨h1, t1⟩ := own_set' prp_len hn h hy0 (y := { y0 with id := x.id }) 0 (by decide) (.int .i64 x.id) rfl
  have n1 : n = ((M).set k { y0 with id := x.id }).length := by rw [List.length_set]; exact hn
  have k1 : ((M).set k { y0 with id := x.id })[k]? = some { y0 with id := x.id } := List.getElem?_set_self (by rw [← hn, hn]; exact hk)
  obtain ⟨h2, t2⟩ := own_set' prp_len n1 h1 k1 (y := { { y0 with id := x.id } with n := x.n }) 1 (by decide) (.int .i64 x.n) rfl
  have n2 : n = (((M).set k { y0 with id := x.id }).set k { { y0 with id := x.id } with n := x.n }).length := by rw [List.length_set]; exact n1
  have k2 : (((M).set k { y0 with id := x.id }).set k { { y0 with id := x.id } with n := x.n })[k]? = some { { y0 with id := x.id } with n := x.n } := List.getElem?_set_self (by rw [← n1, hn]; exact hk)
  obtain ⟨h3, t3⟩ := own_set' prp_len n2 h2 k2 (y := { { { y0 with id := x.id } with n := x.n } with s := x.s }) 2 (by decide) (.string x.s) rfl
  have n3 : n = ((((M).set k { y0 with id := x.id }).set k { { y0 with id := x.id } with n := x.n }).set k { { { y0 with id := x.id } with n := x.n } with s := x.s }).length := by rw [List.length_set]; exact n2
  have k3 : ((((M).set k { y0 with id := x.id }).set k { { y0 with id := x.id } with n := x.n }).set k { { { y0 with id := x.id } with n := x.n } with s := x.s })[k]? = some { { { y0 with id := x.id } with n := x.n } with s := x.s } := List.getElem?_set_self (by rw [← n2, hn]; exact hk)
  obtain ⟨h4, t4⟩ := own_set' prp_len n3 h3 k3 (y := x) 3 (by decide) (.string x.v) rfl
  have n4 : n = (((((M).set k { y0 with id := x.id }).set k { { y0 with id := x.id } with n := x.n }).set k { { { y0 with id := x.id } with n := x.n } with s := x.s }).set k x).length := by rw [List.length_set]; exact n3
  have k4 : (((((M).set k { y0 with id := x.id }).set k { { y0 with id := x.id } with n := x.n }).set k { { { y0 with id := x.id } with n := x.n } with s := x.s }).set k x)[k]? = some x := List.getElem?_set_self (by rw [← n3, hn]; exact hk)
  simp only [List.set_set, Nat.add_zero] at h4
  refine ⟨h4, ?_⟩
  have tt := (((t1).trans t2).trans t3).trans t4
  simpa only [Nat.add_zero] using tt
set_option maxRecDepth 100000 in
set_option maxHeartbeats 4000000 in
theorem deleteP_any (F : FuncId) (b : Nat) (cv : Value) (q : Prp → Bool) (hE : ∀ args w, (callFunc F args).run Try.prog w = .ok (.enter F args) w)
    (hF : ∀ (x : Prp) (W : World), W.cell? ⟨b, 0, none⟩ = some cv → Calls Try.prog F #[Prp.val x, .pointer (some ⟨b, 0, none⟩)] W fun e w' => e = .returned (.bool (q x)) ∧ Below W.heap.size W w')
    (w : World) (v : Value) (l : List Prp) (hS : w.ownsRow 0 56 4 v l.length (l.flatMap Prp.cells)) (hlen : l.length < 1000000) (hc : w.cell? ⟨b, 0, none⟩ = some cv) (hne : ∀ g, v.ownBlock = some g → b ≠ g) :
    Calls Try.prog 37 #[v, .func (.func F) #[] #[.pointer (some ⟨b, 0, none⟩)]] w fun e w' => (∃ v', e = .returned v' ∧ w'.ownsRow 0 56 4 v' (l.filter fun x => !q x).length ((l.filter fun x => !q x).flatMap Prp.cells) ∧ ∀ g, v'.ownBlock = some g → v.ownBlock = some g) ∧ Tch v.ownBlock.toList w w' := by
  generalize hP : (fun (e : Ending) (w' : World) => (∃ v', e = .returned v' ∧ w'.ownsRow 0 56 4 v' (l.filter fun x => !q x).length ((l.filter fun x => !q x).flatMap Prp.cells) ∧ ∀ g, v'.ownBlock = some g → v.ownBlock = some g) ∧ Tch v.ownBlock.toList w w') = PP
  have HPP := Lib.hid (show ∀ (v' : Value) (w' : World), w'.ownsRow 0 56 4 v' (l.filter fun x => !q x).length ((l.filter fun x => !q x).flatMap Prp.cells) → (∀ g, v'.ownBlock = some g → v.ownBlock = some g) → Tch v.ownBlock.toList w w' → PP (.returned v') w' by
    intro v' w' h hg hb
    rw [← hP]
    exact ⟨⟨v', rfl, h, hg⟩, hb⟩)
  clear hP
  obtain ⟨A0, c0, rfl, hR⟩ := rd_own hS
  have HI := Lib.hid (indexP_any F b cv q hE hF w A0 c0 l hR hlen hc)
  have HS := Lib.hid hS
  have HC := Lib.hid hc
  have HFF := Lib.hid hF
  rcases fidx_cases l q with ⟨h1, h2⟩ | ⟨i0, x0, h1, h2, h3, h4⟩
  · rw [h1] at HI
    rw [h2] at HPP
    clear h1 h2 hS hc hF hR
    go_enter Try.func37, Try.ntmps37
    go_wp2_with fail
    refine HI.out.mono ?_
    rintro e w2 ⟨rfl, hb⟩
    have HE := Lib.hid (HPP.out _ w2 (own_kept HS.out (Tch.of_below (S := []) hb) (by simp)) (fun g hg => hg) (Tch.of_below hb))
    clear hb
    go_wp2_with fail
    exact HE.out
  · rw [h1] at HI
    have hi0 := (List.getElem?_eq_some_iff.1 h2).1
    obtain ⟨g, c, hv, -, -⟩ := own_cells hS (by omega)
    injection hv with hv1 hv2 hv3
    subst hv1 hv3
    have hnb : b ≠ g := hne g rfl
    have hlc : l.length ≤ c0 ∧ c0 ≤ maxLen := by
      rcases hS.2 with ⟨h0, _⟩ | ⟨g', cap, cur, hv, hb, hh, q1, q2, q3, q4⟩
      · cases h0
      · injection hv with h5 h6 h7
        subst h7
        exact ⟨q1, q2⟩
    obtain ⟨hlc, hcm⟩ := hlc
    unfold maxLen at hcm
    have hne1 : ((i0 : Int) == -1) = false := beq_eq_false_iff_ne.2 (by omega)
    have HB4 := Lib.hid h4
    have HX0 := Lib.hid (show (l.take i0).filter (fun x => !q x) = l.take i0 ∧ l[i0]? = some x0 ∧ q x0 = true from ⟨h4, h2, h3⟩)
    clear h1 h2 h3 h4 hS hc hF hR hne
    go_enter Try.func37, Try.ntmps37
    go_wp2_with fail
    refine HI.out.mono ?_
    rintro e w2 ⟨rfl, hb⟩
    have HB := Lib.hid hb
    clear hb HI
    go_wp2_with fail
    go_loopw [5, 6] (fun x y wr => ∃ (i j : Nat) (M : List Prp), i < j ∧ j ≤ l.length ∧ x = .int .i64 i ∧ y = .int .i64 j ∧ M.length = l.length ∧ M.take i = (l.take j).filter (fun x => !q x) ∧ M.drop j = l.drop j ∧ wr.ownsRow 0 56 4 (.slice (some ⟨g, 0, none⟩) l.length c0) l.length (M.flatMap Prp.cells) ∧ Tch [g] w wr) (fun _ y _ => l.length - (intOf y).toNat)
    case atStart =>
      obtain ⟨q1, q2, q3⟩ := HX0.out
      obtain ⟨r1, r2⟩ := skip_take (M := l) (l := l) (p := fun x => !q x) (i := i0) (j := i0) q1.symm rfl q2 (by simp [q3])
      exact ⟨i0, i0 + 1, l, by omega, by omega, rfl, by go_num, rfl, r1, r2, own_kept HS.out (Tch.of_below (S := []) HB.out) (by simp), Tch.of_below HB.out⟩
    case round =>
      obtain ⟨i, j, M, hij, hj, rfl, rfl, hM, hM1, hM2, hown, hT⟩ := hrel
      have HT := Lib.hid hT
      have HO := Lib.hid hown
      have HM := Lib.hid (show M.length = l.length ∧ M.take i = (l.take j).filter (fun x => !q x) ∧ M.drop j = l.drop j from ⟨hM, hM1, hM2⟩)
      by_cases hlt : j < l.length
      · obtain ⟨x, hx⟩ : ∃ x, l[j]? = some x := ⟨_, List.getElem?_eq_getElem hlt⟩
        have hMx : M[j]? = some x := by
          have : (M.drop j)[0]? = (l.drop j)[0]? := by rw [hM2]
          rw [List.getElem?_drop, List.getElem?_drop, Nat.add_zero, hx] at this
          exact this
        obtain ⟨b', off, hA, c0, c1, c2, c3⟩ := rd_prp (A := some ⟨g, 0, none⟩) (fun _ => ⟨g, 0, rfl, by
          obtain ⟨g', c', hv, -, hcell⟩ := own_cells hown (by omega)
          injection hv with hv
          injection hv with hv
          injection hv with hv
          subst hv
          intro jj u hu
          rw [Nat.zero_add]
          exact hcell jj u hu⟩) hMx
        injection hA with hA
        injection hA with hA1 hA2
        subst hA1 hA2
        simp only [Nat.zero_add] at c0 c1 c2 c3
        have HX := Lib.hid hx
        have hbl : b < wr.heap.size := by
          have := World.block_lt_of_cell? w _ HC.out
          have h2 := hT.size
          simp at this
          omega
        have hcw := rd_tch hT HC.out hnb
        have hgw : g < wr.heap.size := own_lt hown (g := g) rfl
        clear hM hM1 hM2 hown hT hx hMx
        have hbr := alloc_below wr (.cells x.cells.toArray 56)
        have hz3 := heap_alloc_new wr (.cells x.cells.toArray 56)
        have hs3 : (wr.alloc (.cells x.cells.toArray 56)).heap.size = wr.heap.size + 1 := by simp
        unfold Prp.cells at hbr hz3 hs3
        obtain ⟨w3, hw3⟩ : ∃ w3, w3 = wr.alloc (.cells #[.int .i64 x.id, .int .i64 x.n, .string x.s, .string x.v] 56) := ⟨_, rfl⟩
        have HW3 := Lib.hid hw3
        rw [← hw3] at hbr hz3 hs3
        have hF3 := HFF.out x w3 ((Same.of_below hbr).cell hcw)
        unfold Prp.val at hF3
        have HF3 := Lib.hid hF3
        have HBR := Lib.hid hbr
        have HZ3 := Lib.hid hz3
        have HS3 := Lib.hid hs3
        have d0 : w3.cell? ⟨wr.heap.size, 0, none⟩ = some (.int .i64 x.id) := cell_of HZ3.out rfl
        have d1 : w3.cell? ⟨wr.heap.size, 1, none⟩ = some (.int .i64 x.n) := cell_of HZ3.out rfl
        have d2 : w3.cell? ⟨wr.heap.size, 2, none⟩ = some (.string x.s) := cell_of HZ3.out rfl
        have d3 : w3.cell? ⟨wr.heap.size, 3, none⟩ = some (.string x.v) := cell_of HZ3.out rfl
        clear hw3 hbr hz3 hs3 hF3 hcw
        go_upto_region 8 with (fail)
        rw [← HW3.out]
        clear c0 c1 c2 c3 HW3
        cases hq : q x with
        | true =>
          rw [hq] at HF3
          obtain ⟨m1, m2, m3⟩ := HM.out
          have HK := Lib.hid (skip_take (p := fun x => !q x) m2 m3 HX.out (by simp [hq]))
          clear hq m1 m2 m3
          go_wp2_with fail
          refine HF3.out.mono ?_
          rintro e w4 ⟨rfl, hb4⟩
          have HT4 := Lib.hid ((HT.out.trans (Tch.of_below HBR.out)).trans (Tch.of_below hb4))
          have HO4 := Lib.hid (own_kept (own_kept HO.out (Tch.of_below (S := []) HBR.out) (by simp)) (Tch.of_below (S := []) hb4) (by simp))
          clear hb4 d0 d1 d2 d3
          go_wp2_with fail
          go_roundw
          case rel => exact ⟨i, j + 1, M, by omega, by omega, rfl, by go_num, HM.out.1, HK.out.1, HK.out.2, HO4.out, HT4.out⟩
          case measure => simp [intOf]; omega
        | false =>
          rw [hq] at HF3
          obtain ⟨m1, m2, m3⟩ := HM.out
          have HK := Lib.hid (put_take (p := fun x => !q x) hij hlt m1 m2 m3 HX.out (by simp [hq]))
          clear hq
          go_wp2_with fail
          refine HF3.out.mono ?_
          rintro e w4 ⟨rfl, hb4⟩
          have HT4 := Lib.hid ((HT.out.trans (Tch.of_below HBR.out)).trans (Tch.of_below hb4))
          have ho4 := own_kept (own_kept HO.out (Tch.of_below (S := []) HBR.out) (by simp)) (Tch.of_below (S := []) hb4) (by simp)
          have hz4 := (hb4.block wr.heap.size (by rw [HS3.out]; omega)).trans HZ3.out
          clear d0 d1 d2 d3
          have e0 : w4.cell? ⟨wr.heap.size, 0, none⟩ = some (.int .i64 x.id) := cell_of hz4 rfl
          have e1 : w4.cell? ⟨wr.heap.size, 1, none⟩ = some (.int .i64 x.n) := cell_of hz4 rfl
          have e2 : w4.cell? ⟨wr.heap.size, 2, none⟩ = some (.string x.s) := cell_of hz4 rfl
          have e3 : w4.cell? ⟨wr.heap.size, 3, none⟩ = some (.string x.v) := cell_of hz4 rfl
          have him : i < M.length := by omega
          obtain ⟨y, hy⟩ : ∃ y, M[i]? = some y := ⟨_, List.getElem?_eq_getElem him⟩
          obtain ⟨g', c', hv', hfz, hcell⟩ := own_cells ho4 (by omega)
          injection hv' with hv1' hv2' hv3'
          injection hv1' with hv1'
          injection hv1' with hv1'
          subst hv1' hv3'
          clear hv2'
          obtain ⟨b'', off'', hA, s0, s1, s2, s3⟩ := rd_prp (A := some ⟨g, 0, none⟩) (fun _ => ⟨g, 0, rfl, by
            intro jj u hu
            rw [Nat.zero_add]
            exact hcell jj u hu⟩) hy
          injection hA with hA
          injection hA with hA1 hA2
          subst hA1 hA2
          simp only [Nat.zero_add] at s0 s1 s2 s3
          have fz0 := hfz (i * 4)
          have fz1 := hfz (i * 4 + 1)
          have fz2 := hfz (i * 4 + 2)
          have fz3 := hfz (i * 4 + 3)
          have HP := Lib.hid (own_putP ho4 m1.symm him x)
          have hi1 : (i : Int) < l.length := by omega
          clear ho4 hz4 hb4 hcell hy m1 m2 m3 hfz
          go_wp2_with fail
          go_roundw
          case rel => exact ⟨i + 1, j + 1, M.set i x, by omega, by omega, by go_num, by go_num, HK.out.1, HK.out.2.1, HK.out.2.2, HP.out.1, HT4.out.trans HP.out.2⟩
          case measure => simp [intOf]; omega
      · obtain rfl : j = l.length := by omega
        obtain ⟨m1, m2, m3⟩ := HM.out
        rw [List.take_length] at m2
        obtain ⟨w3, hr, ho3, ht3⟩ := clear_run (P := Try.prog) (size := 4) Try.underlying22 zero56 rfl (by decide) (by
          intro u hu
          simp at hu
          rcases hu with rfl | rfl | rfl | rfl <;> rfl) HO.out (i := i) hij
        have hfl : i = (l.filter fun x => !q x).length := by rw [← m2, List.length_take]; omega
        rw [fl_take prp_len, m2] at ho3
        have HE := Lib.hid (HPP.out (.slice (some ⟨g, 0, none⟩) i c0) w3 (by rw [← hfl]; exact ho3) (fun g' hg => by simpa [Value.ownBlock] using hg) (by
          have := HT.out.trans ht3
          exact this))
        have HRUN := Lib.hid hr
        have hic : i ≤ c0 := by omega
        have hci : ¬ c0 = i := by omega
        have hi2 : (i : Int) ≤ l.length := by omega
        have hi3 : (l.length : Int) ≤ c0 := by omega
        have hi4 : (i : Int) ≤ c0 := by omega
        clear hown hT m1 m2 m3 ho3 ht3 hfl hM1 hM2
        go_wp2
        exact HE.out
set_option maxRecDepth 100000 in
set_option maxHeartbeats 2000000 in
theorem indexM_any (F : FuncId) (b : Nat) (cv : Value) (q : Mg → Bool) (hE : ∀ args w, (callFunc F args).run Try.prog w = .ok (.enter F args) w)
    (hF : ∀ (x : Mg) (W : World), W.cell? ⟨b, 0, none⟩ = some cv → Calls Try.prog F #[Mg.val x, .pointer (some ⟨b, 0, none⟩)] W fun e w' => e = .returned (.bool (q x)) ∧ Below W.heap.size W w')
    (w : World) (A : Option Addr) (cap : Nat) (l : List Mg) (hS : Rd w A (l.flatMap Mg.vals)) (hlen : l.length < 1000000) (hc : w.cell? ⟨b, 0, none⟩ = some cv) :
    Calls Try.prog 39 #[.slice A l.length cap, .func (.func F) #[] #[.pointer (some ⟨b, 0, none⟩)]] w fun e w' => e = .returned (.int .i64 (fidx l q)) ∧ Below w.heap.size w w' := by
  have HS := Lib.hid hS
  have HC := Lib.hid hc
  have HFF := Lib.hid hF
  clear hS hc hF
  go_enter Try.func39, Try.ntmps39
  go_wp2
  go_loopw [8] (fun x wr => ∃ k : Nat, k ≤ l.length ∧ x = .int .i64 k ∧ Below w.heap.size w wr ∧ ∀ (j : Nat) (y : Mg), j < k → l[j]? = some y → q y = false) (fun x _ => l.length - (intOf x).toNat)
  case atStart => exact ⟨0, by omega, rfl, Below.refl _ _, by intro j y h; omega⟩
  case round =>
    obtain ⟨k, hk, rfl, hB, hn⟩ := hrel
    have HB := Lib.hid hB
    have HN := Lib.hid hn
    clear hn
    by_cases hlt : k < l.length
    · obtain ⟨x, hx⟩ : ∃ x, l[k]? = some x := ⟨_, List.getElem?_eq_getElem hlt⟩
      obtain ⟨b', off, rfl, c0, c1, c2, c3, c4, c5, c6, c7, c8⟩ := rd_msg (HS.out.below hB) hx
      have HF := Lib.hid (HFF.out x wr ((Same.of_below hB).cell HC.out))
      have HX := Lib.hid hx
      unfold Mg.val at HF
      clear hx hB
      cases e : q x with
      | true =>
        rw [e] at HF
        have HE := Lib.hid (fidx_at HX.out e HN.out)
        clear e
        go_wp2_with fail
        refine HF.out.mono ?_
        rintro e w2 ⟨rfl, hb⟩
        have HB2 := Lib.hid (then_below HB.out hb)
        clear hb
        go_wp2_with fail
        go_ret
        exact ⟨by rw [HE.out]; rfl, HB2.out⟩
      | false =>
        rw [e] at HF
        have HN1 := Lib.hid (show ∀ (j : Nat) (y : Mg), j < k + 1 → l[j]? = some y → q y = false by
          intro j y hj hy
          by_cases e2 : j = k
          · subst e2; have := HX.out; rw [hy] at this; injection this with this; rw [this]; exact e
          · exact HN.out j y (by omega) hy)
        clear e
        go_wp2_with fail
        refine HF.out.mono ?_
        rintro e w2 ⟨rfl, hb⟩
        have HB2 := Lib.hid (then_below HB.out hb)
        clear hb
        go_wp2_with fail
        go_roundw
        case rel => exact ⟨k + 1, by omega, by go_num, HB2.out, HN1.out⟩
        case measure => simp [intOf]; omega
    · obtain rfl : k = l.length := by omega
      have HE := Lib.hid (fidx_no (fun j y hy => HN.out j y (List.getElem?_eq_some_iff.1 hy).1 hy))
      clear hB
      go_wp2
      go_ret
      exact ⟨by rw [HE.out]; rfl, HB.out⟩
/-- One element laid over another. -/
theorem own_putM {w : World} {g c n : Nat} {M : List Mg} (h : w.ownsRow 0 24 9 (.slice (some ⟨g, 0, none⟩) n c) n (M.flatMap Mg.vals)) (hn : n = M.length) {k : Nat} (hk : k < M.length) (x : Mg) :
    ((((((((((w).setCell ⟨g, k * 9, none⟩ (.string x.topic)).setCell ⟨g, k * 9 + 1, none⟩ (.string x.payload)).setCell ⟨g, k * 9 + 2, none⟩ (.int .i64 x.qos)).setCell ⟨g, k * 9 + 3, none⟩ (.bool x.retain)).setCell ⟨g, k * 9 + 4, none⟩ (.slice x.pA x.props.length x.pc)).setCell ⟨g, k * 9 + 5, none⟩ (.string x.from_)).setCell ⟨g, k * 9 + 6, none⟩ (.int .i64 x.until_)).setCell ⟨g, k * 9 + 7, none⟩ (.int .i64 x.seq)).setCell ⟨g, k * 9 + 8, none⟩ (.string x.group)).ownsRow 0 24 9 (.slice (some ⟨g, 0, none⟩) n c) n ((M.set k x).flatMap Mg.vals) ∧ Tch [g] w ((((((((((w).setCell ⟨g, k * 9, none⟩ (.string x.topic)).setCell ⟨g, k * 9 + 1, none⟩ (.string x.payload)).setCell ⟨g, k * 9 + 2, none⟩ (.int .i64 x.qos)).setCell ⟨g, k * 9 + 3, none⟩ (.bool x.retain)).setCell ⟨g, k * 9 + 4, none⟩ (.slice x.pA x.props.length x.pc)).setCell ⟨g, k * 9 + 5, none⟩ (.string x.from_)).setCell ⟨g, k * 9 + 6, none⟩ (.int .i64 x.until_)).setCell ⟨g, k * 9 + 7, none⟩ (.int .i64 x.seq)).setCell ⟨g, k * 9 + 8, none⟩ (.string x.group)) := by
  obtain ⟨y0, hy0⟩ : ∃ y, M[k]? = some y := ⟨_, List.getElem?_eq_getElem hk⟩
  obtain ⟨h1, t1⟩ := own_set' msg_len hn h hy0 (y := { y0 with topic := x.topic }) 0 (by decide) (.string x.topic) rfl
  have n1 : n = ((M).set k { y0 with topic := x.topic }).length := by rw [List.length_set]; exact hn
  have k1 : ((M).set k { y0 with topic := x.topic })[k]? = some { y0 with topic := x.topic } := List.getElem?_set_self (by rw [← hn, hn]; exact hk)
  obtain ⟨h2, t2⟩ := own_set' msg_len n1 h1 k1 (y := { { y0 with topic := x.topic } with payload := x.payload }) 1 (by decide) (.string x.payload) rfl
  have n2 : n = (((M).set k { y0 with topic := x.topic }).set k { { y0 with topic := x.topic } with payload := x.payload }).length := by rw [List.length_set]; exact n1
  have k2 : (((M).set k { y0 with topic := x.topic }).set k { { y0 with topic := x.topic } with payload := x.payload })[k]? = some { { y0 with topic := x.topic } with payload := x.payload } := List.getElem?_set_self (by rw [← n1, hn]; exact hk)
  obtain ⟨h3, t3⟩ := own_set' msg_len n2 h2 k2 (y := { { { y0 with topic := x.topic } with payload := x.payload } with qos := x.qos }) 2 (by decide) (.int .i64 x.qos) rfl
  have n3 : n = ((((M).set k { y0 with topic := x.topic }).set k { { y0 with topic := x.topic } with payload := x.payload }).set k { { { y0 with topic := x.topic } with payload := x.payload } with qos := x.qos }).length := by rw [List.length_set]; exact n2
  have k3 : ((((M).set k { y0 with topic := x.topic }).set k { { y0 with topic := x.topic } with payload := x.payload }).set k { { { y0 with topic := x.topic } with payload := x.payload } with qos := x.qos })[k]? = some { { { y0 with topic := x.topic } with payload := x.payload } with qos := x.qos } := List.getElem?_set_self (by rw [← n2, hn]; exact hk)
  obtain ⟨h4, t4⟩ := own_set' msg_len n3 h3 k3 (y := { { { { y0 with topic := x.topic } with payload := x.payload } with qos := x.qos } with retain := x.retain }) 3 (by decide) (.bool x.retain) rfl
  have n4 : n = (((((M).set k { y0 with topic := x.topic }).set k { { y0 with topic := x.topic } with payload := x.payload }).set k { { { y0 with topic := x.topic } with payload := x.payload } with qos := x.qos }).set k { { { { y0 with topic := x.topic } with payload := x.payload } with qos := x.qos } with retain := x.retain }).length := by rw [List.length_set]; exact n3
  have k4 : (((((M).set k { y0 with topic := x.topic }).set k { { y0 with topic := x.topic } with payload := x.payload }).set k { { { y0 with topic := x.topic } with payload := x.payload } with qos := x.qos }).set k { { { { y0 with topic := x.topic } with payload := x.payload } with qos := x.qos } with retain := x.retain })[k]? = some { { { { y0 with topic := x.topic } with payload := x.payload } with qos := x.qos } with retain := x.retain } := List.getElem?_set_self (by rw [← n3, hn]; exact hk)
  obtain ⟨h5, t5⟩ := own_set' msg_len n4 h4 k4 (y := { { { { { y0 with topic := x.topic } with payload := x.payload } with qos := x.qos } with retain := x.retain } with pA := x.pA, pc := x.pc, props := x.props }) 4 (by decide) (.slice x.pA x.props.length x.pc) rfl
  have n5 : n = ((((((M).set k { y0 with topic := x.topic }).set k { { y0 with topic := x.topic } with payload := x.payload }).set k { { { y0 with topic := x.topic } with payload := x.payload } with qos := x.qos }).set k { { { { y0 with topic := x.topic } with payload := x.payload } with qos := x.qos } with retain := x.retain }).set k { { { { { y0 with topic := x.topic } with payload := x.payload } with qos := x.qos } with retain := x.retain } with pA := x.pA, pc := x.pc, props := x.props }).length := by rw [List.length_set]; exact n4
  have k5 : ((((((M).set k { y0 with topic := x.topic }).set k { { y0 with topic := x.topic } with payload := x.payload }).set k { { { y0 with topic := x.topic } with payload := x.payload } with qos := x.qos }).set k { { { { y0 with topic := x.topic } with payload := x.payload } with qos := x.qos } with retain := x.retain }).set k { { { { { y0 with topic := x.topic } with payload := x.payload } with qos := x.qos } with retain := x.retain } with pA := x.pA, pc := x.pc, props := x.props })[k]? = some { { { { { y0 with topic := x.topic } with payload := x.payload } with qos := x.qos } with retain := x.retain } with pA := x.pA, pc := x.pc, props := x.props } := List.getElem?_set_self (by rw [← n4, hn]; exact hk)
  obtain ⟨h6, t6⟩ := own_set' msg_len n5 h5 k5 (y := { { { { { { y0 with topic := x.topic } with payload := x.payload } with qos := x.qos } with retain := x.retain } with pA := x.pA, pc := x.pc, props := x.props } with from_ := x.from_ }) 5 (by decide) (.string x.from_) rfl
  have n6 : n = (((((((M).set k { y0 with topic := x.topic }).set k { { y0 with topic := x.topic } with payload := x.payload }).set k { { { y0 with topic := x.topic } with payload := x.payload } with qos := x.qos }).set k { { { { y0 with topic := x.topic } with payload := x.payload } with qos := x.qos } with retain := x.retain }).set k { { { { { y0 with topic := x.topic } with payload := x.payload } with qos := x.qos } with retain := x.retain } with pA := x.pA, pc := x.pc, props := x.props }).set k { { { { { { y0 with topic := x.topic } with payload := x.payload } with qos := x.qos } with retain := x.retain } with pA := x.pA, pc := x.pc, props := x.props } with from_ := x.from_ }).length := by rw [List.length_set]; exact n5
  have k6 : (((((((M).set k { y0 with topic := x.topic }).set k { { y0 with topic := x.topic } with payload := x.payload }).set k { { { y0 with topic := x.topic } with payload := x.payload } with qos := x.qos }).set k { { { { y0 with topic := x.topic } with payload := x.payload } with qos := x.qos } with retain := x.retain }).set k { { { { { y0 with topic := x.topic } with payload := x.payload } with qos := x.qos } with retain := x.retain } with pA := x.pA, pc := x.pc, props := x.props }).set k { { { { { { y0 with topic := x.topic } with payload := x.payload } with qos := x.qos } with retain := x.retain } with pA := x.pA, pc := x.pc, props := x.props } with from_ := x.from_ })[k]? = some { { { { { { y0 with topic := x.topic } with payload := x.payload } with qos := x.qos } with retain := x.retain } with pA := x.pA, pc := x.pc, props := x.props } with from_ := x.from_ } := List.getElem?_set_self (by rw [← n5, hn]; exact hk)
  obtain ⟨h7, t7⟩ := own_set' msg_len n6 h6 k6 (y := { { { { { { { y0 with topic := x.topic } with payload := x.payload } with qos := x.qos } with retain := x.retain } with pA := x.pA, pc := x.pc, props := x.props } with from_ := x.from_ } with until_ := x.until_ }) 6 (by decide) (.int .i64 x.until_) rfl
  have n7 : n = ((((((((M).set k { y0 with topic := x.topic }).set k { { y0 with topic := x.topic } with payload := x.payload }).set k { { { y0 with topic := x.topic } with payload := x.payload } with qos := x.qos }).set k { { { { y0 with topic := x.topic } with payload := x.payload } with qos := x.qos } with retain := x.retain }).set k { { { { { y0 with topic := x.topic } with payload := x.payload } with qos := x.qos } with retain := x.retain } with pA := x.pA, pc := x.pc, props := x.props }).set k { { { { { { y0 with topic := x.topic } with payload := x.payload } with qos := x.qos } with retain := x.retain } with pA := x.pA, pc := x.pc, props := x.props } with from_ := x.from_ }).set k { { { { { { { y0 with topic := x.topic } with payload := x.payload } with qos := x.qos } with retain := x.retain } with pA := x.pA, pc := x.pc, props := x.props } with from_ := x.from_ } with until_ := x.until_ }).length := by rw [List.length_set]; exact n6
  have k7 : ((((((((M).set k { y0 with topic := x.topic }).set k { { y0 with topic := x.topic } with payload := x.payload }).set k { { { y0 with topic := x.topic } with payload := x.payload } with qos := x.qos }).set k { { { { y0 with topic := x.topic } with payload := x.payload } with qos := x.qos } with retain := x.retain }).set k { { { { { y0 with topic := x.topic } with payload := x.payload } with qos := x.qos } with retain := x.retain } with pA := x.pA, pc := x.pc, props := x.props }).set k { { { { { { y0 with topic := x.topic } with payload := x.payload } with qos := x.qos } with retain := x.retain } with pA := x.pA, pc := x.pc, props := x.props } with from_ := x.from_ }).set k { { { { { { { y0 with topic := x.topic } with payload := x.payload } with qos := x.qos } with retain := x.retain } with pA := x.pA, pc := x.pc, props := x.props } with from_ := x.from_ } with until_ := x.until_ })[k]? = some { { { { { { { y0 with topic := x.topic } with payload := x.payload } with qos := x.qos } with retain := x.retain } with pA := x.pA, pc := x.pc, props := x.props } with from_ := x.from_ } with until_ := x.until_ } := List.getElem?_set_self (by rw [← n6, hn]; exact hk)
  obtain ⟨h8, t8⟩ := own_set' msg_len n7 h7 k7 (y := { { { { { { { { y0 with topic := x.topic } with payload := x.payload } with qos := x.qos } with retain := x.retain } with pA := x.pA, pc := x.pc, props := x.props } with from_ := x.from_ } with until_ := x.until_ } with seq := x.seq }) 7 (by decide) (.int .i64 x.seq) rfl
  have n8 : n = (((((((((M).set k { y0 with topic := x.topic }).set k { { y0 with topic := x.topic } with payload := x.payload }).set k { { { y0 with topic := x.topic } with payload := x.payload } with qos := x.qos }).set k { { { { y0 with topic := x.topic } with payload := x.payload } with qos := x.qos } with retain := x.retain }).set k { { { { { y0 with topic := x.topic } with payload := x.payload } with qos := x.qos } with retain := x.retain } with pA := x.pA, pc := x.pc, props := x.props }).set k { { { { { { y0 with topic := x.topic } with payload := x.payload } with qos := x.qos } with retain := x.retain } with pA := x.pA, pc := x.pc, props := x.props } with from_ := x.from_ }).set k { { { { { { { y0 with topic := x.topic } with payload := x.payload } with qos := x.qos } with retain := x.retain } with pA := x.pA, pc := x.pc, props := x.props } with from_ := x.from_ } with until_ := x.until_ }).set k { { { { { { { { y0 with topic := x.topic } with payload := x.payload } with qos := x.qos } with retain := x.retain } with pA := x.pA, pc := x.pc, props := x.props } with from_ := x.from_ } with until_ := x.until_ } with seq := x.seq }).length := by rw [List.length_set]; exact n7
  have k8 : (((((((((M).set k { y0 with topic := x.topic }).set k { { y0 with topic := x.topic } with payload := x.payload }).set k { { { y0 with topic := x.topic } with payload := x.payload } with qos := x.qos }).set k { { { { y0 with topic := x.topic } with payload := x.payload } with qos := x.qos } with retain := x.retain }).set k { { { { { y0 with topic := x.topic } with payload := x.payload } with qos := x.qos } with retain := x.retain } with pA := x.pA, pc := x.pc, props := x.props }).set k { { { { { { y0 with topic := x.topic } with payload := x.payload } with qos := x.qos } with retain := x.retain } with pA := x.pA, pc := x.pc, props := x.props } with from_ := x.from_ }).set k { { { { { { { y0 with topic := x.topic } with payload := x.payload } with qos := x.qos } with retain := x.retain } with pA := x.pA, pc := x.pc, props := x.props } with from_ := x.from_ } with until_ := x.until_ }).set k { { { { { { { { y0 with topic := x.topic } with payload := x.payload } with qos := x.qos } with retain := x.retain } with pA := x.pA, pc := x.pc, props := x.props } with from_ := x.from_ } with until_ := x.until_ } with seq := x.seq })[k]? = some { { { { { { { { y0 with topic := x.topic } with payload := x.payload } with qos := x.qos } with retain := x.retain } with pA := x.pA, pc := x.pc, props := x.props } with from_ := x.from_ } with until_ := x.until_ } with seq := x.seq } := List.getElem?_set_self (by rw [← n7, hn]; exact hk)
  obtain ⟨h9, t9⟩ := own_set' msg_len n8 h8 k8 (y := x) 8 (by decide) (.string x.group) rfl
  have n9 : n = ((((((((((M).set k { y0 with topic := x.topic }).set k { { y0 with topic := x.topic } with payload := x.payload }).set k { { { y0 with topic := x.topic } with payload := x.payload } with qos := x.qos }).set k { { { { y0 with topic := x.topic } with payload := x.payload } with qos := x.qos } with retain := x.retain }).set k { { { { { y0 with topic := x.topic } with payload := x.payload } with qos := x.qos } with retain := x.retain } with pA := x.pA, pc := x.pc, props := x.props }).set k { { { { { { y0 with topic := x.topic } with payload := x.payload } with qos := x.qos } with retain := x.retain } with pA := x.pA, pc := x.pc, props := x.props } with from_ := x.from_ }).set k { { { { { { { y0 with topic := x.topic } with payload := x.payload } with qos := x.qos } with retain := x.retain } with pA := x.pA, pc := x.pc, props := x.props } with from_ := x.from_ } with until_ := x.until_ }).set k { { { { { { { { y0 with topic := x.topic } with payload := x.payload } with qos := x.qos } with retain := x.retain } with pA := x.pA, pc := x.pc, props := x.props } with from_ := x.from_ } with until_ := x.until_ } with seq := x.seq }).set k x).length := by rw [List.length_set]; exact n8
  have k9 : ((((((((((M).set k { y0 with topic := x.topic }).set k { { y0 with topic := x.topic } with payload := x.payload }).set k { { { y0 with topic := x.topic } with payload := x.payload } with qos := x.qos }).set k { { { { y0 with topic := x.topic } with payload := x.payload } with qos := x.qos } with retain := x.retain }).set k { { { { { y0 with topic := x.topic } with payload := x.payload } with qos := x.qos } with retain := x.retain } with pA := x.pA, pc := x.pc, props := x.props }).set k { { { { { { y0 with topic := x.topic } with payload := x.payload } with qos := x.qos } with retain := x.retain } with pA := x.pA, pc := x.pc, props := x.props } with from_ := x.from_ }).set k { { { { { { { y0 with topic := x.topic } with payload := x.payload } with qos := x.qos } with retain := x.retain } with pA := x.pA, pc := x.pc, props := x.props } with from_ := x.from_ } with until_ := x.until_ }).set k { { { { { { { { y0 with topic := x.topic } with payload := x.payload } with qos := x.qos } with retain := x.retain } with pA := x.pA, pc := x.pc, props := x.props } with from_ := x.from_ } with until_ := x.until_ } with seq := x.seq }).set k x)[k]? = some x := List.getElem?_set_self (by rw [← n8, hn]; exact hk)
  simp only [List.set_set, Nat.add_zero] at h9
  refine ⟨h9, ?_⟩
  have tt := ((((((((t1).trans t2).trans t3).trans t4).trans t5).trans t6).trans t7).trans t8).trans t9
  simpa only [Nat.add_zero] using tt
set_option maxRecDepth 100000 in
set_option maxHeartbeats 4000000 in
theorem deleteM_any (F : FuncId) (b : Nat) (cv : Value) (q : Mg → Bool) (hE : ∀ args w, (callFunc F args).run Try.prog w = .ok (.enter F args) w)
    (hF : ∀ (x : Mg) (W : World), W.cell? ⟨b, 0, none⟩ = some cv → Calls Try.prog F #[Mg.val x, .pointer (some ⟨b, 0, none⟩)] W fun e w' => e = .returned (.bool (q x)) ∧ Below W.heap.size W w')
    (w : World) (v : Value) (l : List Mg) (hS : w.ownsRow 0 24 9 v l.length (l.flatMap Mg.vals)) (hlen : l.length < 1000000) (hc : w.cell? ⟨b, 0, none⟩ = some cv) (hne : ∀ g, v.ownBlock = some g → b ≠ g) :
    Calls Try.prog 33 #[v, .func (.func F) #[] #[.pointer (some ⟨b, 0, none⟩)]] w fun e w' => (∃ v', e = .returned v' ∧ w'.ownsRow 0 24 9 v' (l.filter fun x => !q x).length ((l.filter fun x => !q x).flatMap Mg.vals) ∧ ∀ g, v'.ownBlock = some g → v.ownBlock = some g) ∧ Tch v.ownBlock.toList w w' := by
  generalize hP : (fun (e : Ending) (w' : World) => (∃ v', e = .returned v' ∧ w'.ownsRow 0 24 9 v' (l.filter fun x => !q x).length ((l.filter fun x => !q x).flatMap Mg.vals) ∧ ∀ g, v'.ownBlock = some g → v.ownBlock = some g) ∧ Tch v.ownBlock.toList w w') = PP
  have HPP := Lib.hid (show ∀ (v' : Value) (w' : World), w'.ownsRow 0 24 9 v' (l.filter fun x => !q x).length ((l.filter fun x => !q x).flatMap Mg.vals) → (∀ g, v'.ownBlock = some g → v.ownBlock = some g) → Tch v.ownBlock.toList w w' → PP (.returned v') w' by
    intro v' w' h hg hb
    rw [← hP]
    exact ⟨⟨v', rfl, h, hg⟩, hb⟩)
  clear hP
  obtain ⟨A0, c0, rfl, hR⟩ := rd_own hS
  have HI := Lib.hid (indexM_any F b cv q hE hF w A0 c0 l hR hlen hc)
  have HS := Lib.hid hS
  have HC := Lib.hid hc
  have HFF := Lib.hid hF
  rcases fidx_cases l q with ⟨h1, h2⟩ | ⟨i0, x0, h1, h2, h3, h4⟩
  · rw [h1] at HI
    rw [h2] at HPP
    clear h1 h2 hS hc hF hR
    go_enter Try.func33, Try.ntmps33
    go_wp2_with fail
    refine HI.out.mono ?_
    rintro e w2 ⟨rfl, hb⟩
    have HE := Lib.hid (HPP.out _ w2 (own_kept HS.out (Tch.of_below (S := []) hb) (by simp)) (fun g hg => hg) (Tch.of_below hb))
    clear hb
    go_wp2_with fail
    exact HE.out
  · rw [h1] at HI
    have hi0 := (List.getElem?_eq_some_iff.1 h2).1
    obtain ⟨g, c, hv, -, -⟩ := own_cells hS (by omega)
    injection hv with hv1 hv2 hv3
    subst hv1 hv3
    have hnb : b ≠ g := hne g rfl
    have hlc : l.length ≤ c0 ∧ c0 ≤ maxLen := by
      rcases hS.2 with ⟨h0, _⟩ | ⟨g', cap, cur, hv, hb, hh, q1, q2, q3, q4⟩
      · cases h0
      · injection hv with h5 h6 h7
        subst h7
        exact ⟨q1, q2⟩
    obtain ⟨hlc, hcm⟩ := hlc
    unfold maxLen at hcm
    have hne1 : ((i0 : Int) == -1) = false := beq_eq_false_iff_ne.2 (by omega)
    have HB4 := Lib.hid h4
    have HX0 := Lib.hid (show (l.take i0).filter (fun x => !q x) = l.take i0 ∧ l[i0]? = some x0 ∧ q x0 = true from ⟨h4, h2, h3⟩)
    clear h1 h2 h3 h4 hS hc hF hR hne
    go_enter Try.func33, Try.ntmps33
    go_wp2_with fail
    refine HI.out.mono ?_
    rintro e w2 ⟨rfl, hb⟩
    have HB := Lib.hid hb
    clear hb HI
    go_wp2_with fail
    go_loopw [5, 6] (fun x y wr => ∃ (i j : Nat) (M : List Mg), i < j ∧ j ≤ l.length ∧ x = .int .i64 i ∧ y = .int .i64 j ∧ M.length = l.length ∧ M.take i = (l.take j).filter (fun x => !q x) ∧ M.drop j = l.drop j ∧ wr.ownsRow 0 24 9 (.slice (some ⟨g, 0, none⟩) l.length c0) l.length (M.flatMap Mg.vals) ∧ Tch [g] w wr) (fun _ y _ => l.length - (intOf y).toNat)
    case atStart =>
      obtain ⟨q1, q2, q3⟩ := HX0.out
      obtain ⟨r1, r2⟩ := skip_take (M := l) (l := l) (p := fun x => !q x) (i := i0) (j := i0) q1.symm rfl q2 (by simp [q3])
      exact ⟨i0, i0 + 1, l, by omega, by omega, rfl, by go_num, rfl, r1, r2, own_kept HS.out (Tch.of_below (S := []) HB.out) (by simp), Tch.of_below HB.out⟩
    case round =>
      obtain ⟨i, j, M, hij, hj, rfl, rfl, hM, hM1, hM2, hown, hT⟩ := hrel
      have HT := Lib.hid hT
      have HO := Lib.hid hown
      have HM := Lib.hid (show M.length = l.length ∧ M.take i = (l.take j).filter (fun x => !q x) ∧ M.drop j = l.drop j from ⟨hM, hM1, hM2⟩)
      by_cases hlt : j < l.length
      · obtain ⟨x, hx⟩ : ∃ x, l[j]? = some x := ⟨_, List.getElem?_eq_getElem hlt⟩
        have hMx : M[j]? = some x := by
          have : (M.drop j)[0]? = (l.drop j)[0]? := by rw [hM2]
          rw [List.getElem?_drop, List.getElem?_drop, Nat.add_zero, hx] at this
          exact this
        obtain ⟨b', off, hA, c0, c1, c2, c3, c4, c5, c6, c7, c8⟩ := rd_msg (A := some ⟨g, 0, none⟩) (fun _ => ⟨g, 0, rfl, by
          obtain ⟨g', c', hv, -, hcell⟩ := own_cells hown (by omega)
          injection hv with hv
          injection hv with hv
          injection hv with hv
          subst hv
          intro jj u hu
          rw [Nat.zero_add]
          exact hcell jj u hu⟩) hMx
        injection hA with hA
        injection hA with hA1 hA2
        subst hA1 hA2
        simp only [Nat.zero_add] at c0 c1 c2 c3 c4 c5 c6 c7 c8
        have HX := Lib.hid hx
        have hbl : b < wr.heap.size := by
          have := World.block_lt_of_cell? w _ HC.out
          have h2 := hT.size
          simp at this
          omega
        have hcw := rd_tch hT HC.out hnb
        have hgw : g < wr.heap.size := own_lt hown (g := g) rfl
        clear hM hM1 hM2 hown hT hx hMx
        have hbr := alloc_below wr (.cells x.vals.toArray 24)
        have hz3 := heap_alloc_new wr (.cells x.vals.toArray 24)
        have hs3 : (wr.alloc (.cells x.vals.toArray 24)).heap.size = wr.heap.size + 1 := by simp
        unfold Mg.vals at hbr hz3 hs3
        obtain ⟨w3, hw3⟩ : ∃ w3, w3 = wr.alloc (.cells #[.string x.topic, .string x.payload, .int .i64 x.qos, .bool x.retain, .slice x.pA x.props.length x.pc, .string x.from_, .int .i64 x.until_, .int .i64 x.seq, .string x.group] 24) := ⟨_, rfl⟩
        have HW3 := Lib.hid hw3
        rw [← hw3] at hbr hz3 hs3
        have hF3 := HFF.out x w3 ((Same.of_below hbr).cell hcw)
        unfold Mg.val at hF3
        have HF3 := Lib.hid hF3
        have HBR := Lib.hid hbr
        have HZ3 := Lib.hid hz3
        have HS3 := Lib.hid hs3
        have d0 : w3.cell? ⟨wr.heap.size, 0, none⟩ = some (.string x.topic) := cell_of HZ3.out rfl
        have d1 : w3.cell? ⟨wr.heap.size, 1, none⟩ = some (.string x.payload) := cell_of HZ3.out rfl
        have d2 : w3.cell? ⟨wr.heap.size, 2, none⟩ = some (.int .i64 x.qos) := cell_of HZ3.out rfl
        have d3 : w3.cell? ⟨wr.heap.size, 3, none⟩ = some (.bool x.retain) := cell_of HZ3.out rfl
        have d4 : w3.cell? ⟨wr.heap.size, 4, none⟩ = some (.slice x.pA x.props.length x.pc) := cell_of HZ3.out rfl
        have d5 : w3.cell? ⟨wr.heap.size, 5, none⟩ = some (.string x.from_) := cell_of HZ3.out rfl
        have d6 : w3.cell? ⟨wr.heap.size, 6, none⟩ = some (.int .i64 x.until_) := cell_of HZ3.out rfl
        have d7 : w3.cell? ⟨wr.heap.size, 7, none⟩ = some (.int .i64 x.seq) := cell_of HZ3.out rfl
        have d8 : w3.cell? ⟨wr.heap.size, 8, none⟩ = some (.string x.group) := cell_of HZ3.out rfl
        clear hw3 hbr hz3 hs3 hF3 hcw
        go_upto_region 8 with (fail)
        rw [← HW3.out]
        clear c0 c1 c2 c3 c4 c5 c6 c7 c8 HW3
        cases hq : q x with
        | true =>
          rw [hq] at HF3
          obtain ⟨m1, m2, m3⟩ := HM.out
          have HK := Lib.hid (skip_take (p := fun x => !q x) m2 m3 HX.out (by simp [hq]))
          clear hq m1 m2 m3
          go_wp2_with fail
          refine HF3.out.mono ?_
          rintro e w4 ⟨rfl, hb4⟩
          have HT4 := Lib.hid ((HT.out.trans (Tch.of_below HBR.out)).trans (Tch.of_below hb4))
          have HO4 := Lib.hid (own_kept (own_kept HO.out (Tch.of_below (S := []) HBR.out) (by simp)) (Tch.of_below (S := []) hb4) (by simp))
          clear hb4 d0 d1 d2 d3 d4 d5 d6 d7 d8
          go_wp2_with fail
          go_roundw
          case rel => exact ⟨i, j + 1, M, by omega, by omega, rfl, by go_num, HM.out.1, HK.out.1, HK.out.2, HO4.out, HT4.out⟩
          case measure => simp [intOf]; omega
        | false =>
          rw [hq] at HF3
          obtain ⟨m1, m2, m3⟩ := HM.out
          have HK := Lib.hid (put_take (p := fun x => !q x) hij hlt m1 m2 m3 HX.out (by simp [hq]))
          clear hq
          go_wp2_with fail
          refine HF3.out.mono ?_
          rintro e w4 ⟨rfl, hb4⟩
          have HT4 := Lib.hid ((HT.out.trans (Tch.of_below HBR.out)).trans (Tch.of_below hb4))
          have ho4 := own_kept (own_kept HO.out (Tch.of_below (S := []) HBR.out) (by simp)) (Tch.of_below (S := []) hb4) (by simp)
          have hz4 := (hb4.block wr.heap.size (by rw [HS3.out]; omega)).trans HZ3.out
          clear d0 d1 d2 d3 d4 d5 d6 d7 d8
          have e0 : w4.cell? ⟨wr.heap.size, 0, none⟩ = some (.string x.topic) := cell_of hz4 rfl
          have e1 : w4.cell? ⟨wr.heap.size, 1, none⟩ = some (.string x.payload) := cell_of hz4 rfl
          have e2 : w4.cell? ⟨wr.heap.size, 2, none⟩ = some (.int .i64 x.qos) := cell_of hz4 rfl
          have e3 : w4.cell? ⟨wr.heap.size, 3, none⟩ = some (.bool x.retain) := cell_of hz4 rfl
          have e4 : w4.cell? ⟨wr.heap.size, 4, none⟩ = some (.slice x.pA x.props.length x.pc) := cell_of hz4 rfl
          have e5 : w4.cell? ⟨wr.heap.size, 5, none⟩ = some (.string x.from_) := cell_of hz4 rfl
          have e6 : w4.cell? ⟨wr.heap.size, 6, none⟩ = some (.int .i64 x.until_) := cell_of hz4 rfl
          have e7 : w4.cell? ⟨wr.heap.size, 7, none⟩ = some (.int .i64 x.seq) := cell_of hz4 rfl
          have e8 : w4.cell? ⟨wr.heap.size, 8, none⟩ = some (.string x.group) := cell_of hz4 rfl
          have him : i < M.length := by omega
          obtain ⟨y, hy⟩ : ∃ y, M[i]? = some y := ⟨_, List.getElem?_eq_getElem him⟩
          obtain ⟨g', c', hv', hfz, hcell⟩ := own_cells ho4 (by omega)
          injection hv' with hv1' hv2' hv3'
          injection hv1' with hv1'
          injection hv1' with hv1'
          subst hv1' hv3'
          clear hv2'
          obtain ⟨b'', off'', hA, s0, s1, s2, s3, s4, s5, s6, s7, s8⟩ := rd_msg (A := some ⟨g, 0, none⟩) (fun _ => ⟨g, 0, rfl, by
            intro jj u hu
            rw [Nat.zero_add]
            exact hcell jj u hu⟩) hy
          injection hA with hA
          injection hA with hA1 hA2
          subst hA1 hA2
          simp only [Nat.zero_add] at s0 s1 s2 s3 s4 s5 s6 s7 s8
          have fz0 := hfz (i * 9)
          have fz1 := hfz (i * 9 + 1)
          have fz2 := hfz (i * 9 + 2)
          have fz3 := hfz (i * 9 + 3)
          have fz4 := hfz (i * 9 + 4)
          have fz5 := hfz (i * 9 + 5)
          have fz6 := hfz (i * 9 + 6)
          have fz7 := hfz (i * 9 + 7)
          have fz8 := hfz (i * 9 + 8)
          have HP := Lib.hid (own_putM ho4 m1.symm him x)
          have hi1 : (i : Int) < l.length := by omega
          clear ho4 hz4 hb4 hcell hy m1 m2 m3 hfz
          go_wp2_with fail
          go_roundw
          case rel => exact ⟨i + 1, j + 1, M.set i x, by omega, by omega, by go_num, by go_num, HK.out.1, HK.out.2.1, HK.out.2.2, HP.out.1, HT4.out.trans HP.out.2⟩
          case measure => simp [intOf]; omega
      · obtain rfl : j = l.length := by omega
        obtain ⟨m1, m2, m3⟩ := HM.out
        rw [List.take_length] at m2
        obtain ⟨w3, hr, ho3, ht3⟩ := clear_run (P := Try.prog) (size := 9) Try.underlying31 zero24 rfl (by decide) (by
          intro u hu
          simp at hu
          rcases hu with rfl | rfl | rfl | rfl | rfl | rfl | rfl | rfl | rfl <;> rfl) HO.out (i := i) hij
        have hfl : i = (l.filter fun x => !q x).length := by rw [← m2, List.length_take]; omega
        rw [fl_take msg_len, m2] at ho3
        have HE := Lib.hid (HPP.out (.slice (some ⟨g, 0, none⟩) i c0) w3 (by rw [← hfl]; exact ho3) (fun g' hg => by simpa [Value.ownBlock] using hg) (by
          have := HT.out.trans ht3
          exact this))
        have HRUN := Lib.hid hr
        have hic : i ≤ c0 := by omega
        have hci : ¬ c0 = i := by omega
        have hi2 : (i : Int) ≤ l.length := by omega
        have hi3 : (l.length : Int) ≤ c0 := by omega
        have hi4 : (i : Int) ≤ c0 := by omega
        clear hown hT m1 m2 m3 ho3 ht3 hfl hM1 hM2
        go_wp2
        exact HE.out
end Go.Proofs.Ytjcdkgdeoeboaaa.QuW
