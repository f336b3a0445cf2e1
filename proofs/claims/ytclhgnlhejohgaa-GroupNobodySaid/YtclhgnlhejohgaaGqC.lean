/- A group's queue: its small methods. -/
import Derived.Test.YtclhgnlhejohgaaGqA
set_option linter.unusedVariables false
set_option linter.unusedSimpArgs false
namespace Go.Proofs.Ytclhgnlhejohgaa.GrpW
open Go.RowKit Go.Proofs.Ytclhgnlhejohgaa.Tc Go.Proofs.Ytclhgnlhejohgaa.GrpP

section
variable {B : Nat} {w w' : World} {g ms : Nat} {mv iv : Value} {S : GS}
theorem Lod.congr {x y : Tc.It} (h : Lod B w x) (h1 : y.msg.pA = x.msg.pA) (h2 : y.msg.props = x.msg.props) (h3 : y.bA = x.bA) (h4 : y.behind = x.behind) (h5 : y.bc = x.bc) (hw : y.wf) : Lod B w y :=
  ⟨⟨hw, by rw [h1, h2]; exact h.led.2.1, by rw [h3, h4]; exact h.led.2.2⟩, by rw [h1, h2]; exact h.fixp, by rw [h3, h4]; exact h.fixb, by rw [h4, h5]; exact h.bcap⟩
/-- A cell of an item is stored. -/
theorem Gp.put (h : Gp B w g ms mv iv S) {k : Nat} {x y : Tc.It} (hk : S.I[k]? = some x) (j : Nat) (hj : j < 12) (u : Value) (hy : y.vals = x.vals.set j u) (hl : ∀ w', Lod B w' x → Lod B w' y) :
    ∃ gi c, iv = .slice (some ⟨gi, 0, none⟩) S.I.length c ∧ (∀ v, x.vals[j]? = some v → w.cell? ⟨gi, k * 12 + j, none⟩ = some v) ∧ w.frozen? ⟨gi, k * 12 + j, none⟩ = false ∧ Gp B (w.setCell ⟨gi, k * 12 + j, none⟩ u) g ms mv iv { S with I := S.I.set k y } ∧ Gf B w (w.setCell ⟨gi, k * 12 + j, none⟩ u) := by
  obtain ⟨gi, c, hv, hf, hc⟩ := own_elem vals_len h.own hk
  have hown := h.own
  rw [hv] at hown
  obtain ⟨h1, h2⟩ := own_set' vals_len rfl hown hk j hj u hy
  have hne : gi ≠ g := h.gi gi (by rw [hv]; rfl)
  have hT : Tch (g :: iv.ownBlock.toList) w (w.setCell ⟨gi, k * 12 + j, none⟩ u) := h2.mono (by rw [hv]; intro i hi; simp [Value.ownBlock] at hi ⊢; exact .inr hi)
  refine ⟨gi, c, hv, fun v hv' => hc j v hv', hf _, ?_⟩
  refine h.turn (S' := { S with I := S.I.set k y }) rfl rfl hT ?_ (by simpa [hv] using h1) (fun k hk => .inl hk) (fun hg z hz => ?_)
  · exact (set_other (p := ⟨gi, k * 12 + j, none⟩) (Ne.symm hne) u).trans h.st
  · rcases List.mem_or_eq_of_mem_set hz with hz | rfl
    · exact (h.each z hz).gf hg
    · exact hl _ ((h.each x (List.mem_of_getElem? hk)).gf hg)
/-- An item's cells where the group keeps them. -/
theorem Gp.at_ (h : Gp B w g ms mv iv S) {k : Nat} {x : Tc.It} (hk : S.I[k]? = some x) : ∃ gi c, iv = .slice (some ⟨gi, 0, none⟩) S.I.length c ∧ ItAt w gi (k * 12) x := by
  obtain ⟨gi, c, hv, hf, hc⟩ := own_elem vals_len h.own hk
  exact ⟨gi, c, hv, ⟨hc 0 _ rfl, hc 1 _ rfl, hc 2 _ rfl, hc 3 _ rfl, hc 4 _ rfl, hc 5 _ rfl, hc 6 _ rfl, hc 7 _ rfl, hc 8 _ rfl, hc 9 _ rfl, hc 10 _ rfl, hc 11 _ rfl⟩⟩
end
set_option maxHeartbeats 1000000 in
theorem new_any (w : World) (key : ByteArray) (st most : Int) (B : Nat) (hB : B ≤ w.heap.size) :
    Calls Try.prog 60 #[.string key, .int .i64 st, .int .i64 most] w fun e w' => e = .returned (.pointer (some ⟨w.heap.size + 1, 0, none⟩)) ∧ Gp B w' (w.heap.size + 1) w.heap.size (.slice none 0 0) (.slice none 0 0) ⟨key, st, most, [], [], 0, ByteArray.empty⟩ ∧ Below w.heap.size w w' := by
  have h1 := alloc_below w (.cells #[.slice none 0 0, .int .i64 0] 57)
  have z1 := heap_alloc_new w (.cells #[.slice none 0 0, .int .i64 0] 57)
  have s1 : (w.alloc (.cells #[.slice none 0 0, .int .i64 0] 57)).heap.size = w.heap.size + 1 := by simp
  generalize hw1 : w.alloc (.cells #[.slice none 0 0, .int .i64 0] 57) = w1 at h1 z1 s1
  have h2 := alloc_below w1 (.cells #[.pointer (some ⟨w.heap.size, 0, none⟩), .string key, .int .i64 st, .int .i64 most, .slice none 0 0, .string ByteArray.empty] 93)
  have z2 := heap_alloc_new w1 (.cells #[.pointer (some ⟨w.heap.size, 0, none⟩), .string key, .int .i64 st, .int .i64 most, .slice none 0 0, .string ByteArray.empty] 93)
  rw [s1] at z2
  have HG := Lib.hid (show Gp B (w1.alloc (.cells #[.pointer (some ⟨w.heap.size, 0, none⟩), .string key, .int .i64 st, .int .i64 most, .slice none 0 0, .string ByteArray.empty] 93)) (w.heap.size + 1) w.heap.size (.slice none 0 0) (.slice none 0 0) ⟨key, st, most, [], [], 0, ByteArray.empty⟩ from
    ⟨z2, ⟨(h2.block _ (by omega)).trans z1, MemW.Row.nil _⟩, own_nil _ 45 12, by simp, by omega, hB, by intro k hk; simp [Value.ownBlock] at hk, by intro k hk; simp [Value.ownBlock] at hk⟩)
  have HB := Lib.hid (h1.trans (h2.mono h1.size))
  have HW := Lib.hid hw1
  clear h1 z1 h2 z2 hw1
  go_enter Try.func60, Try.ntmps60
  go_wp2
  go_ret
  have hg := HG.out
  have hb := HB.out
  rw [← HW.out] at hg hb
  exact ⟨rfl, hg, hb⟩
section
variable {B : Nat} {w : World} {g ms : Nat} {mv iv : Value} {S : GS}
theorem of_any (h : Gp B w g ms mv iv S) : Calls Try.prog 91 #[.pointer (some ⟨g, 0, none⟩)] w fun e w' => e = .returned (.pointer (some ⟨ms, 0, none⟩)) ∧ w = w' := by
  have c0 := h.c0
  clear h
  go_enter Try.func91, Try.ntmps91
  go_wp2
  go_ret
  exact ⟨rfl, rfl⟩
theorem key_any (h : Gp B w g ms mv iv S) : Calls Try.prog 74 #[.pointer (some ⟨g, 0, none⟩)] w fun e w' => e = .returned (.string S.key) ∧ w = w' := by
  have c1 := h.c1
  clear h
  go_enter Try.func74, Try.ntmps74
  go_wp2
  go_ret
  exact ⟨rfl, rfl⟩
theorem strategy_any (h : Gp B w g ms mv iv S) : Calls Try.prog 72 #[.pointer (some ⟨g, 0, none⟩)] w fun e w' => e = .returned (.int .i64 S.st) ∧ w = w' := by
  have c2 := h.c2
  clear h
  go_enter Try.func72, Try.ntmps72
  go_wp2
  go_ret
  exact ⟨rfl, rfl⟩
/-- Members that a call handed back. -/
def LPost (L : List MemP.Mem) (w : World) (e : Ending) (w' : World) : Prop := (∃ v, e = .returned v ∧ MemW.Row w' v L) ∧ Below w.heap.size w w'
set_option maxHeartbeats 1000000 in
theorem members_any (h : Gp B w g ms mv iv S) (hl : S.L.length < 1000000) : Calls Try.prog 64 #[.pointer (some ⟨g, 0, none⟩)] w (LPost S.L w) := by
  generalize hP : LPost S.L w = PP
  have HPP := Lib.hid (show ∀ (v : Value) (w' : World), MemW.Row w' v S.L → Below w.heap.size w w' → PP (.returned v) w' by
    intro v w' h1 h3
    rw [← hP]
    exact ⟨⟨v, rfl, h1⟩, h3⟩)
  clear hP
  have HO := Lib.hid (of_any h)
  have HA := Lib.hid (MemW.all_any w ms mv S.L S.gen h.mem hl)
  clear h
  go_enter Try.func64, Try.ntmps64
  go_wp2_with fail
  refine HO.out.mono ?_
  rintro e w2 ⟨rfl, rfl⟩
  go_wp2_with fail
  refine HA.out.mono ?_
  rintro e w2 ⟨⟨v, rfl, hr⟩, hb⟩
  have HE := Lib.hid (HPP.out v w2 hr hb)
  clear hr hb
  go_wp2_with fail
  exact HE.out
set_option maxHeartbeats 1000000 in
theorem generation_any (h : Gp B w g ms mv iv S) : Calls Try.prog 71 #[.pointer (some ⟨g, 0, none⟩)] w fun e w' => e = .returned (.int .i64 S.gen) ∧ w = w' := by
  have HO := Lib.hid (of_any h)
  have HA := Lib.hid (MemW.gen_any w ms mv S.L S.gen h.mem)
  clear h
  go_enter Try.func71, Try.ntmps71
  go_wp2_with fail
  refine HO.out.mono ?_
  rintro e w2 ⟨rfl, rfl⟩
  go_wp2_with fail
  refine HA.out.mono ?_
  rintro e w2 ⟨rfl, rfl⟩
  go_wp2_with fail
  go_ret
  exact ⟨rfl, rfl⟩
/-- The room that is left. -/
def roomP (S : GS) : Int := max 0 (S.most - S.I.length)
theorem roomP_cases (S : GS) : (0 < S.most - (S.I.length : Int) ∧ roomP S = S.most - S.I.length) ∨ (S.most - (S.I.length : Int) ≤ 0 ∧ roomP S = 0) := by
  unfold roomP
  omega
set_option maxHeartbeats 1000000 in
theorem room_any (h : Gp B w g ms mv iv S) (hl : S.I.length < 1000000) (h0 : -9223372036854775808 ≤ S.most) (h1 : S.most ≤ 9223372036854775807) (hn : (S.I.length : Int) ≤ max S.most 0) :
    Calls Try.prog 70 #[.pointer (some ⟨g, 0, none⟩)] w fun e w' => e = .returned (.int .i64 (roomP S)) ∧ Dr w w' := by
  obtain ⟨A, c, rfl, -⟩ := h.items
  have c3 := h.c3
  have c4 := h.c4
  have hc := roomP_cases S
  have hw : IntKind.i64.wrap (S.most - (S.I.length : Int)) = S.most - S.I.length := IntWalk.i64_in _ (by omega)
  have hw2 : wrap64 (S.most - (S.I.length : Int)) = S.most - S.I.length := by unfold wrap64; omega
  generalize roomP S = r at *
  generalize (S.I.length : Nat) = n at *
  generalize S.most = m at *
  clear h hn
  rcases hc with ⟨hc, rfl⟩ | ⟨hc, rfl⟩
  · go_enter Try.func70, Try.ntmps70
    go_wp2
    go_quiet (fail)
    go_wp2
    go_ret
    exact ⟨rfl, _, rfl⟩
  · go_enter Try.func70, Try.ntmps70
    go_wp2
    go_quiet (fail)
    go_wp2
    go_ret
    exact ⟨rfl, _, rfl⟩
set_option maxHeartbeats 1000000 in
theorem items_any (h : Gp B w g ms mv iv S) (hl : S.I.length < 1000000) : Calls Try.prog 63 #[.pointer (some ⟨g, 0, none⟩)] w fun e w' => (∃ v, e = .returned v ∧ w'.ownsRow 0 45 12 v S.I.length (S.I.flatMap It.vals) ∧ ∀ k, v.ownBlock = some k → w.heap.size ≤ k) ∧ Below w.heap.size w w' := by
  generalize hP : (fun (e : Ending) (w' : World) => (∃ v, e = .returned v ∧ w'.ownsRow 0 45 12 v S.I.length (S.I.flatMap It.vals) ∧ ∀ k, v.ownBlock = some k → w.heap.size ≤ k) ∧ Below w.heap.size w w') = PP
  have HPP := Lib.hid (show ∀ (v : Value) (w' : World), w'.ownsRow 0 45 12 v S.I.length (S.I.flatMap It.vals) → (∀ k, v.ownBlock = some k → w.heap.size ≤ k) → Below w.heap.size w w' → PP (.returned v) w' by
    intro v w' h1 h2 h3
    rw [← hP]
    exact ⟨⟨v, rfl, h1, h2⟩, h3⟩)
  clear hP
  obtain ⟨A, c, rfl, hS⟩ := h.items
  have c4 := h.c4
  have HC := Lib.hid (cloneI_any w A c S.I (rd_items hS) hl)
  clear h hS
  go_enter Try.func63, Try.ntmps63
  go_wp2_with fail
  refine HC.out.mono ?_
  rintro e w2 ⟨⟨v', rfl, hR, hN⟩, hb⟩
  have HE := Lib.hid (HPP.out v' w2 hR hN hb)
  clear hR hN hb
  go_wp2_with fail
  exact HE.out
/-- What an act on a group answers and leaves. -/
def MPost (B : Nat) (w : World) (g ms : Nat) (ans : Bool) (S' : GS) (e : Ending) (w' : World) : Prop := ∃ mv' iv', e = .returned (.bool ans) ∧ Gp B w' g ms mv' iv' S' ∧ Gf B w w'
set_option maxHeartbeats 1000000 in
theorem join_any (h : Gp B w g ms mv iv S) (hl : S.L.length < 1000000) (hg0 : 0 ≤ S.gen) (hg1 : S.gen < 1000000) (c : ByteArray) (hc : c.size ≤ maxLen) (q : Int) (hq : (Lit.int .i64 q).wf = true) :
    Calls Try.prog 87 #[.pointer (some ⟨g, 0, none⟩), .string c, .int .i64 q] w (MPost B w g ms (MemP.act S.L S.gen 1 c q).1 { S with L := (MemP.act S.L S.gen 1 c q).2.1, gen := (MemP.act S.L S.gen 1 c q).2.2 }) := by
  have HO := Lib.hid (of_any h)
  have HJ := Lib.hid (MemW.join_any w ms mv S.L S.gen h.mem hl hg0 hg1 c hc q hq)
  have HH := Lib.hid h
  generalize MemP.act S.L S.gen 1 c q = r at *
  generalize hP : MPost B w g ms r.1 { S with L := r.2.1, gen := r.2.2 } = PP
  have HPP := Lib.hid (show ∀ mv' w', Gp B w' g ms mv' iv { S with L := r.2.1, gen := r.2.2 } → Gf B w w' → PP (.returned (.bool r.1)) w' from fun mv' w' h1 h2 => by
    rw [← hP]
    exact ⟨mv', iv, rfl, h1, h2⟩)
  clear h hP
  go_enter Try.func87, Try.ntmps87
  go_wp2_with fail
  refine HO.out.mono ?_
  rintro e w2 ⟨rfl, rfl⟩
  go_wp2_with fail
  refine HJ.out.mono ?_
  rintro e w2 ⟨v', rfl, ha, ht⟩
  have HM := Lib.hid (HH.out.members ht ha)
  clear ha ht
  go_wp2_with fail
  exact HPP.out _ _ HM.out.1 HM.out.2
end
end Go.Proofs.Ytclhgnlhejohgaa.GrpW
set_option linter.unusedVariables false
set_option linter.unusedSimpArgs false
namespace Go.Proofs.Ytclhgnlhejohgaa.GrpW
open Go.RowKit Go.Proofs.Ytclhgnlhejohgaa.Tc Go.Proofs.Ytclhgnlhejohgaa.GrpP

/-- The first k of a list are turned. -/
def mapTo {α : Type} (f : α → α) (l : List α) (k : Nat) : List α := (l.take k).map f ++ l.drop k
theorem mapTo_zero {α : Type} (f : α → α) (l : List α) : mapTo f l 0 = l := by simp [mapTo]
theorem mapTo_all {α : Type} (f : α → α) (l : List α) : mapTo f l l.length = l.map f := by simp [mapTo]
theorem mapTo_length {α : Type} (f : α → α) (l : List α) (k : Nat) : (mapTo f l k).length = l.length := by
  simp only [mapTo, List.length_append, List.length_map, List.length_take, List.length_drop]
  omega
theorem mapTo_get {α : Type} {f : α → α} {l : List α} {k : Nat} {x : α} (hk : l[k]? = some x) : (mapTo f l k)[k]? = some x := by
  have hlt := (List.getElem?_eq_some_iff.1 hk).1
  unfold mapTo
  rw [List.getElem?_append_right (by simp; omega), List.length_map, List.length_take, Nat.min_eq_left (by omega), Nat.sub_self, List.getElem?_drop, Nat.add_zero]
  exact hk
theorem mapTo_set {α : Type} {f : α → α} {l : List α} {k : Nat} {x : α} (hk : l[k]? = some x) : (mapTo f l k).set k (f x) = mapTo f l (k + 1) := by
  have hlt := (List.getElem?_eq_some_iff.1 hk).1
  have hd : l.drop k = x :: l.drop (k + 1) := by
    rw [List.drop_eq_getElem_cons hlt, (List.getElem?_eq_some_iff.1 hk).2]
  unfold mapTo
  rw [hd, List.set_append_right _ _ (by simp; omega), List.length_map, List.length_take, Nat.min_eq_left (by omega), Nat.sub_self, List.set_cons_zero]
  rw [List.take_add_one, hk]
  simp
theorem mapTo_skip {α : Type} {f : α → α} {l : List α} {k : Nat} {x : α} (hk : l[k]? = some x) (hf : f x = x) : mapTo f l k = mapTo f l (k + 1) := by
  rw [← mapTo_set hk, hf]
  apply List.ext_getElem?
  intro i
  rw [List.getElem?_set]
  split
  · rename_i e
    subst e
    rw [mapTo_get hk, mapTo_length, if_pos (List.getElem?_eq_some_iff.1 hk).1]
  · rfl
/-- What is under way with a client waits. -/
def wt (c : ByteArray) (x : Tc.It) : Tc.It := if x.at_ = c then { x with at_ := ByteArray.empty } else x
theorem wt_lod {B : Nat} {w : World} {x : Tc.It} (c : ByteArray) (h : Lod B w x) : Lod B w (wt c x) := by
  unfold wt
  split
  · exact h.congr rfl rfl rfl rfl rfl ⟨h.led.1.1, show ByteArray.empty.size ≤ maxLen from Nat.zero_le _⟩
  · exact h
section
variable {B : Nat} {w : World} {g ms : Nat} {mv iv : Value} {S : GS}
set_option maxHeartbeats 4000000 in
theorem wait_any (h : Gp B w g ms mv iv S) (hl : S.I.length < 1000000) (c : ByteArray) :
    Calls Try.prog 119 #[.pointer (some ⟨g, 0, none⟩), .string c] w fun e w' => e = .returned (.tuple #[]) ∧ Gp B w' g ms mv iv { S with I := S.I.map (wt c) } ∧ Gf B w w' := by
  have HH := Lib.hid h
  have c4 := h.c4
  obtain ⟨A, cp, hiv, -⟩ := h.items
  have HIV := Lib.hid hiv
  rw [hiv] at c4
  clear h hiv
  go_enter Try.func119, Try.ntmps119
  go_wp2
  go_loopw [11] (fun x wr => ∃ k : Nat, k ≤ S.I.length ∧ x = .int .i64 k ∧ Gp B wr g ms mv iv { S with I := mapTo (wt c) S.I k } ∧ Gf B w wr) (fun x _ => S.I.length - (intOf x).toNat)
  case atStart => exact ⟨0, by omega, rfl, by rw [mapTo_zero]; exact HH.out, Gf.refl _ _⟩
  case round =>
    obtain ⟨k, hk, rfl, hG, hF⟩ := hrel
    have HG := Lib.hid hG
    have HF := Lib.hid hF
    clear hF
    by_cases hlt : k < S.I.length
    · obtain ⟨x, hx⟩ : ∃ x, S.I[k]? = some x := ⟨_, List.getElem?_eq_getElem hlt⟩
      have HX := Lib.hid hx
      have hm := mapTo_get (f := wt c) hx
      obtain ⟨gi, cc, hv, g0, g1, g2, g3, g4, g5, g6, g7, g8, g9, g10, g11⟩ := hG.at_ hm
      rw [mapTo_length] at hv
      have hv2 := HIV.out.symm.trans hv
      injection hv2 with hA h6 hC
      subst hA hC
      clear h6
      have HV := Lib.hid hv
      obtain ⟨w2, hw2⟩ : ∃ w2, w2 = wr.alloc (.cells x.vals.toArray 45) := ⟨_, rfl⟩
      have hb2 : Below wr.heap.size wr w2 := by rw [hw2]; exact alloc_below _ _
      have hcp : CpAt w2 wr.heap.size x := by rw [hw2]; exact CpAt.new wr x
      have HG2 := Lib.hid (hG.below hb2)
      have HF2 := Lib.hid (HF.out.trans (Gf.of_below hb2))
      have HC9 := Lib.hid hcp.c9
      have HCG := Lib.hid ((hG.below hb2).c4)
      have HW2 := Lib.hid hw2
      clear hG hm hv hw2 hb2 hcp hx c4
      go_upto_region 3 with (fail)
      rw [show (#[Value.string x.msg.topic, .string x.msg.payload, .int .i64 x.msg.qos, .bool x.msg.retain, .slice x.msg.pA x.msg.props.length x.msg.pc, .string x.msg.from_, .int .i64 x.msg.until_, .int .i64 x.msg.seq, .string x.msg.group, .string x.at_, .slice x.bA x.behind.length x.bc, .bool x.again] : Array Value) = x.vals.toArray from rfl, ← HW2.out]
      have c9 := HC9.out
      have c4 := HCG.out
      rw [HV.out] at c4
      clear g0 g1 g2 g3 g4 g5 g6 g7 g8 g9 g10 g11
      by_cases he : x.at_ = c
      · have e1 := str_eq he
        have hy : wt c x = { x with at_ := ByteArray.empty } := by unfold wt; rw [if_pos he]
        obtain ⟨gi2, cc2, hv2, hcell, hfr, hG3, hF3⟩ := HG2.out.put (y := wt c x) (mapTo_get (f := wt c) HX.out) 9 (by decide) (.string ByteArray.empty) (by rw [hy]; rfl) (fun w' hl => wt_lod c hl)
        rw [mapTo_length] at hv2
        have hv3 := HV.out.symm.trans hv2
        injection hv3 with hA h6 hC
        injection hA with hA
        injection hA with hA
        subst hA hC
        clear h6
        have c9i := hcell _ rfl
        have hG3' := hG3
        simp only [mapTo_set HX.out] at hG3'
        have HG3 := Lib.hid hG3'
        have HF3 := Lib.hid (HF2.out.trans hF3)
        clear hv2 hcell hG3 hG3' hF3 hy he
        go_wp2
        go_roundw
        case rel => exact ⟨k + 1, by omega, by go_num, HG3.out, HF3.out⟩
        case measure => simp [intOf]; omega
      · have e1 := str_ne he
        have hy : wt c x = x := by unfold wt; rw [if_neg he]
        have HG3 := Lib.hid (mapTo_skip HX.out hy ▸ HG2.out)
        clear hy he
        go_wp2
        go_roundw
        case rel => exact ⟨k + 1, by omega, by go_num, HG3.out, HF2.out⟩
        case measure => simp [intOf]; omega
    · obtain rfl : k = S.I.length := by omega
      have HE := Lib.hid (mapTo_all (wt c) S.I ▸ HG.out)
      clear hG
      go_wp2
      go_returns
      exact ⟨rfl, HE.out, HF.out⟩
/-- A message that may have been sent. -/
def dbt (x : Tc.It) : Tc.It := { x with again := true }
theorem dbt_lod {x : Tc.It} (h : Lod B w x) : Lod B w (dbt x) := h.congr rfl rfl rfl rfl rfl h.led.1
set_option maxHeartbeats 4000000 in
theorem doubt_any (h : Gp B w g ms mv iv S) (hl : S.I.length < 1000000) :
    Calls Try.prog 99 #[.pointer (some ⟨g, 0, none⟩)] w fun e w' => e = .returned (.tuple #[]) ∧ Gp B w' g ms mv iv { S with I := S.I.map dbt } ∧ Gf B w w' := by
  have HH := Lib.hid h
  have c4 := h.c4
  obtain ⟨A, cp, hiv, -⟩ := h.items
  have HIV := Lib.hid hiv
  rw [hiv] at c4
  clear h hiv
  go_enter Try.func99, Try.ntmps99
  go_wp2
  go_loopw [10] (fun x wr => ∃ k : Nat, k ≤ S.I.length ∧ x = .int .i64 k ∧ Gp B wr g ms mv iv { S with I := mapTo dbt S.I k } ∧ Gf B w wr) (fun x _ => S.I.length - (intOf x).toNat)
  case atStart => exact ⟨0, by omega, rfl, by rw [mapTo_zero]; exact HH.out, Gf.refl _ _⟩
  case round =>
    obtain ⟨k, hk, rfl, hG, hF⟩ := hrel
    have HG := Lib.hid hG
    have HF := Lib.hid hF
    clear hF c4
    by_cases hlt : k < S.I.length
    · obtain ⟨x, hx⟩ : ∃ x, S.I[k]? = some x := ⟨_, List.getElem?_eq_getElem hlt⟩
      have HX := Lib.hid hx
      obtain ⟨gi2, cc2, hv2, hcell, hfr, hG3, hF3⟩ := hG.put (y := dbt x) (mapTo_get (f := dbt) hx) 11 (by decide) (.bool true) rfl (fun w' hl => dbt_lod hl)
      rw [mapTo_length] at hv2
      have hv3 := HIV.out.symm.trans hv2
      injection hv3 with hA h6 hC
      subst hA hC
      clear h6
      have c11 := hcell _ rfl
      have hG3' := hG3
      simp only [mapTo_set hx] at hG3'
      have HG3 := Lib.hid hG3'
      have HF3 := Lib.hid (HF.out.trans hF3)
      have c4 := hG.c4
      rw [HIV.out] at c4
      clear hv2 hcell hG3 hG3' hF3 hG hx
      go_wp2
      go_roundw
      case rel => exact ⟨k + 1, by omega, by go_num, HG3.out, HF3.out⟩
      case measure => simp [intOf]; omega
    · obtain rfl : k = S.I.length := by omega
      have HE := Lib.hid (mapTo_all dbt S.I ▸ HG.out)
      clear hG
      go_wp2
      go_returns
      exact ⟨rfl, HE.out, HF.out⟩
/-- The group behind members that turned. -/
def memP (S : GS) (kind : Int) (c : ByteArray) (q : Int) : GS := { S with L := (MemP.act S.L S.gen kind c q).2.1, gen := (MemP.act S.L S.gen kind c q).2.2 }
def leaveP (S : GS) (c : ByteArray) : GS := if (MemP.act S.L S.gen 2 c 0).1 = true then { memP S 2 c 0 with I := S.I.map (wt c) } else memP S 2 c 0
set_option maxHeartbeats 4000000 in
theorem leave_any (h : Gp B w g ms mv iv S) (hI : S.I.length < 1000000) (hl : S.L.length < 1000000) (hg0 : 0 ≤ S.gen) (hg1 : S.gen < 1000000) (c : ByteArray) :
    Calls Try.prog 97 #[.pointer (some ⟨g, 0, none⟩), .string c] w (MPost B w g ms (MemP.act S.L S.gen 2 c 0).1 (leaveP S c)) := by
  have HO := Lib.hid (of_any h)
  have HJ := Lib.hid (MemW.leave_any w ms mv S.L S.gen h.mem hl hg0 hg1 c 0)
  have HH := Lib.hid h
  unfold leaveP memP
  generalize MemP.act S.L S.gen 2 c 0 = r at *
  obtain ⟨ans, L', gen'⟩ := r
  dsimp only at *
  cases ans with
  | false =>
    generalize hP : MPost B w g ms false (if false = true then { S with I := S.I.map (wt c), L := L', gen := gen' } else { S with L := L', gen := gen' }) = PP
    have HPP := Lib.hid (show ∀ mv' w', Gp B w' g ms mv' iv { S with L := L', gen := gen' } → Gf B w w' → PP (.returned (.bool false)) w' from fun mv' w' h1 h2 => by
      rw [← hP]
      exact ⟨mv', iv, rfl, h1, h2⟩)
    clear h hP
    go_enter Try.func97, Try.ntmps97
    go_wp2_with fail
    refine HO.out.mono ?_
    rintro e w2 ⟨rfl, rfl⟩
    go_wp2_with fail
    refine HJ.out.mono ?_
    rintro e w2 ⟨v', rfl, ha, ht⟩
    have HM := Lib.hid (HH.out.members ht ha)
    clear ha ht
    go_wp2_with fail
    exact HPP.out _ _ HM.out.1 HM.out.2
  | true =>
    generalize hP : MPost B w g ms true (if true = true then { S with I := S.I.map (wt c), L := L', gen := gen' } else { S with L := L', gen := gen' }) = PP
    have HPP := Lib.hid (show ∀ mv' w', Gp B w' g ms mv' iv { S with I := S.I.map (wt c), L := L', gen := gen' } → Gf B w w' → PP (.returned (.bool true)) w' from fun mv' w' h1 h2 => by
      rw [← hP]
      exact ⟨mv', iv, rfl, h1, h2⟩)
    clear h hP
    go_enter Try.func97, Try.ntmps97
    go_wp2_with fail
    refine HO.out.mono ?_
    rintro e w2 ⟨rfl, rfl⟩
    go_wp2_with fail
    refine HJ.out.mono ?_
    rintro e w2 ⟨v', rfl, ha, ht⟩
    have HM := Lib.hid (HH.out.members ht ha)
    have HW := Lib.hid (wait_any HM.out.1 hI c)
    clear ha ht
    go_wp2_with fail
    refine HW.out.mono ?_
    rintro e w3 ⟨rfl, hG, hF⟩
    have HG := Lib.hid hG
    have HF := Lib.hid (HM.out.2.trans hF)
    clear hG hF
    go_wp2_with fail
    exact HPP.out _ _ HG.out HF.out
end
end Go.Proofs.Ytclhgnlhejohgaa.GrpW
set_option linter.unusedVariables false
set_option linter.unusedSimpArgs false
namespace Go.Proofs.Ytclhgnlhejohgaa.GrpW
open Go.RowKit Go.Proofs.Ytclhgnlhejohgaa.Tc Go.Proofs.Ytclhgnlhejohgaa.GrpP

section
variable {B : Nat} {w : World} {g ms : Nat} {mv iv : Value} {S : GS}
def onlineP (S : GS) (c : ByteArray) (is : Bool) : GS := memP (if ((MemP.get S.L c).isSome && !is) = true then { S with I := S.I.map (wt c) } else S) (MemW.kindOf is) c 0
def mval (m : MemP.Mem) : Value := .agg #[.string m.client, .int .i64 m.since, .int .i64 m.qos, .bool m.online]
set_option maxHeartbeats 4000000 in
theorem online_any (h : Gp B w g ms mv iv S) (hI : S.I.length < 1000000) (hl : S.L.length < 1000000) (hg0 : 0 ≤ S.gen) (hg1 : S.gen < 1000000) (c : ByteArray) (is : Bool) :
    Calls Try.prog 98 #[.pointer (some ⟨g, 0, none⟩), .string c, .bool is] w (MPost B w g ms (MemP.act S.L S.gen (MemW.kindOf is) c 0).1 (onlineP S c is)) := by
  have HO := Lib.hid (of_any h)
  have HGT := Lib.hid (MemW.get_any w ms mv S.L S.gen h.mem c)
  unfold MemW.val at HGT
  have HH := Lib.hid h
  unfold onlineP memP
  generalize hr : MemP.act S.L S.gen (MemW.kindOf is) c 0 = r at *
  generalize hgo : MemP.get S.L c = go at *
  generalize go.getD MemW.zero = m at *
  obtain ⟨ans, L', gen'⟩ := r
  obtain ⟨m1, m2, m3, m4⟩ := m
  dsimp only at *
  have HR := Lib.hid hr
  clear hr hgo h
  by_cases hc : (go.isSome && !is) = true
  · rw [if_pos hc]
    dsimp only
    rw [HR.out]
    dsimp only
    generalize hP : MPost B w g ms ans { S with I := S.I.map (wt c), L := L', gen := gen' } = PP
    have HPP := Lib.hid (show ∀ mv' w', Gp B w' g ms mv' iv { S with I := S.I.map (wt c), L := L', gen := gen' } → Gf B w w' → PP (.returned (.bool ans)) w' from fun mv' w' h1 h2 => by
      rw [← hP]
      exact ⟨mv', iv, rfl, h1, h2⟩)
    clear hP
    have hs : go.isSome = true := by simp at hc; exact hc.1
    have hi : is = false := by simp at hc; exact hc.2
    subst hi
    rw [hs] at HGT
    go_enter Try.func98, Try.ntmps98
    go_wp2_with fail
    refine HO.out.mono ?_
    rintro e w2 ⟨rfl, rfl⟩
    go_wp2_with fail
    refine HGT.out.mono ?_
    rintro e w2 ⟨rfl, hb⟩
    have HB2 := Lib.hid hb
    clear hb
    have hb3 := then_below HB2.out (alloc_below w2 (.cells #[.string m1, .int .i64 m2, .int .i64 m3, .bool m4] 66))
    have HW := Lib.hid (wait_any (HH.out.below hb3) hI c)
    have HF3 := Lib.hid (Gf.of_below (B := B) hb3)
    clear hb3
    go_wp2_with fail
    refine HW.out.mono ?_
    rintro e w4 ⟨rfl, hG, hF⟩
    have HG4 := Lib.hid hG
    have HF4 := Lib.hid (HF3.out.trans hF)
    have HO4 := Lib.hid (of_any hG)
    have HJ := Lib.hid (MemW.online_any w4 ms mv S.L S.gen hG.mem hl hg0 hg1 c false 0)
    rw [HR.out] at HJ
    clear hG hF
    go_wp2_with fail
    refine HO4.out.mono ?_
    rintro e w5 ⟨rfl, rfl⟩
    go_wp2_with fail
    refine HJ.out.mono ?_
    rintro e w5 ⟨v', rfl, ha, ht⟩
    have HM := Lib.hid (HG4.out.members ht ha)
    clear ha ht
    go_wp2_with fail
    exact HPP.out _ _ HM.out.1 (HF4.out.trans HM.out.2)
  · rw [if_neg hc]
    rw [HR.out]
    dsimp only
    generalize hP : MPost B w g ms ans { S with L := L', gen := gen' } = PP
    have HPP := Lib.hid (show ∀ mv' w', Gp B w' g ms mv' iv { S with L := L', gen := gen' } → Gf B w w' → PP (.returned (.bool ans)) w' from fun mv' w' h1 h2 => by
      rw [← hP]
      exact ⟨mv', iv, rfl, h1, h2⟩)
    clear hP
    have hc' : (go.isSome && !is) = false := by simpa using hc
    generalize go.isSome = gs at HGT hc'
    clear hc
    go_enter Try.func98, Try.ntmps98
    go_wp2_with fail
    refine HO.out.mono ?_
    rintro e w2 ⟨rfl, rfl⟩
    go_wp2_with fail
    refine HGT.out.mono ?_
    rintro e w2 ⟨rfl, hb⟩
    have hb3 := then_below hb (alloc_below w2 (.cells #[.string m1, .int .i64 m2, .int .i64 m3, .bool m4] 66))
    have HG4 := Lib.hid (HH.out.below hb3)
    have HO4 := Lib.hid (of_any HG4.out)
    have HJ := Lib.hid (MemW.online_any _ ms mv S.L S.gen HG4.out.mem hl hg0 hg1 c is 0)
    rw [HR.out] at HJ
    have HF3 := Lib.hid (Gf.of_below (B := B) hb3)
    clear hb hb3
    cases gs <;> cases is
    case true.false => simp at hc'
    all_goals
      clear hc'
      go_wp2_with fail
      refine HO4.out.mono ?_
      rintro e w5 ⟨rfl, rfl⟩
      go_wp2_with fail
      refine HJ.out.mono ?_
      rintro e w5 ⟨v', rfl, ha, ht⟩
      have HM := Lib.hid (HG4.out.members ht ha)
      clear ha ht
      go_wp2_with fail
      exact HPP.out _ _ HM.out.1 (HF3.out.trans HM.out.2)
end
end Go.Proofs.Ytclhgnlhejohgaa.GrpW
set_option linter.unusedVariables false
set_option linter.unusedSimpArgs false
namespace Go.Proofs.Ytclhgnlhejohgaa.GrpW
open Go.RowKit Go.Proofs.Ytclhgnlhejohgaa.Tc Go.Proofs.Ytclhgnlhejohgaa.GrpP

def isSeq (n : Int) (x : Tc.It) : Bool := decide (x.msg.seq = n)
def isWith (n : Int) (c : ByteArray) (x : Tc.It) : Bool := decide (c ≠ ByteArray.empty) && decide (x.msg.seq = n) && decide (x.at_ = c)
theorem seq_fn (x : Tc.It) (b : Nat) (n : Int) (W : World) (hc : W.cell? ⟨b, 0, none⟩ = some (.int .i64 n)) :
    Calls Try.prog 90 #[x.val, .pointer (some ⟨b, 0, none⟩)] W fun e w' => e = .returned (.bool (isSeq n x)) ∧ Below W.heap.size W w' := by
  have HB := Lib.hid (alloc_below W (.cells x.vals.toArray 45))
  have hc2 := (Same.of_below HB.out).cell hc
  have HC := Lib.hid hc2
  unfold It.vals at HB HC
  unfold It.val isSeq
  clear hc hc2
  by_cases h : x.msg.seq = n
  · rw [decide_eq_true h]
    have h' : (x.msg.seq == n) = true := beq_iff_eq.2 h
    clear h
    go_enter Try.func90, Try.ntmps90
    have hc2 := HC.out
    go_wp2
    go_ret
    exact ⟨rfl, HB.out⟩
  · rw [decide_eq_false h]
    have h' : (x.msg.seq == n) = false := beq_eq_false_iff_ne.2 h
    clear h
    go_enter Try.func90, Try.ntmps90
    have hc2 := HC.out
    go_wp2
    go_ret
    exact ⟨rfl, HB.out⟩
set_option maxHeartbeats 1000000 in
theorem with_fn (x : Tc.It) (bc bs : Nat) (n : Int) (c : ByteArray) (W : World) (hc : W.cell? ⟨bc, 0, none⟩ = some (.string c)) (hs : W.cell? ⟨bs, 0, none⟩ = some (.int .i64 n)) :
    Calls Try.prog 106 #[x.val, .pointer (some ⟨bc, 0, none⟩), .pointer (some ⟨bs, 0, none⟩)] W fun e w' => e = .returned (.bool (isWith n c x)) ∧ Below W.heap.size W w' := by
  have HB := Lib.hid (alloc_below W (.cells x.vals.toArray 45))
  have hc2 := (Same.of_below HB.out).cell hc
  have hs2 := (Same.of_below HB.out).cell hs
  have HC := Lib.hid hc2
  have HS := Lib.hid hs2
  unfold It.vals at HB HC HS
  unfold It.val isWith
  clear hc hc2 hs hs2
  by_cases h0 : c = ByteArray.empty
  · subst h0
    rw [decide_eq_false (by simp), Bool.false_and, Bool.false_and]
    go_enter Try.func106, Try.ntmps106
    have hc2 := HC.out
    have hs2 := HS.out
    go_wp2
    go_ret
    exact ⟨rfl, HB.out⟩
  · obtain ⟨n1, n2⟩ := ne_empty h0
    rw [decide_eq_true h0, Bool.true_and]
    by_cases h : x.msg.seq = n
    · have h' : (x.msg.seq == n) = true := beq_iff_eq.2 h
      rw [decide_eq_true h, Bool.true_and]
      by_cases ha : x.at_ = c
      · have e1 := str_eq ha
        rw [decide_eq_true ha]
        clear h ha h0
        go_enter Try.func106, Try.ntmps106
        have hc2 := HC.out
        have hs2 := HS.out
        go_wp2
        go_ret
        exact ⟨rfl, HB.out⟩
      · have e1 := str_ne ha
        rw [decide_eq_false ha]
        clear h ha h0
        go_enter Try.func106, Try.ntmps106
        have hc2 := HC.out
        have hs2 := HS.out
        go_wp2
        go_ret
        exact ⟨rfl, HB.out⟩
    · have h' : (x.msg.seq == n) = false := beq_eq_false_iff_ne.2 h
      rw [decide_eq_false h, Bool.false_and]
      clear h h0
      go_enter Try.func106, Try.ntmps106
      have hc2 := HC.out
      have hs2 := HS.out
      go_wp2
      go_ret
      exact ⟨rfl, HB.out⟩
section
variable {B : Nat} {w : World} {g ms : Nat} {mv iv : Value} {S : GS}
theorem index1_any (h : Gp B w g ms mv iv S) (b : Nat) (n : Int) (hc : w.cell? ⟨b, 0, none⟩ = some (.int .i64 n)) :
    Calls Try.prog 89 #[.pointer (some ⟨g, 0, none⟩), .func (.func 90) #[] #[.pointer (some ⟨b, 0, none⟩)]] w fun e w' => e = .returned (.int .i64 (gidx S.I (isSeq n))) ∧ Below w.heap.size w w' := by
  obtain ⟨A, c, rfl, hS⟩ := h.items
  have c4 := h.c4
  have HI := Lib.hid (indexI1_any 90 b (isSeq n) (enters_of Try.func90 (by kernel_rfl) rfl) w S.I (fun x W _ hb => seq_fn x b n W ((Same.of_below hb).cell hc)) A c hS)
  clear h hS hc
  go_enter Try.func89, Try.ntmps89
  go_wp2_with fail
  refine HI.out.mono ?_
  rintro e w2 ⟨rfl, hb⟩
  have HB := Lib.hid hb
  clear hb
  go_wp2_with fail
  go_ret
  exact ⟨rfl, HB.out⟩
theorem index2_any (h : Gp B w g ms mv iv S) (bc bs : Nat) (n : Int) (c : ByteArray) (hc : w.cell? ⟨bc, 0, none⟩ = some (.string c)) (hs : w.cell? ⟨bs, 0, none⟩ = some (.int .i64 n)) :
    Calls Try.prog 89 #[.pointer (some ⟨g, 0, none⟩), .func (.func 106) #[] #[.pointer (some ⟨bc, 0, none⟩), .pointer (some ⟨bs, 0, none⟩)]] w fun e w' => e = .returned (.int .i64 (gidx S.I (isWith n c))) ∧ Below w.heap.size w w' := by
  obtain ⟨A, cp, rfl, hS⟩ := h.items
  have c4 := h.c4
  have HI := Lib.hid (indexI2_any 106 bc bs (isWith n c) (enters_of Try.func106 (by kernel_rfl) rfl) w S.I (fun x W _ hb => with_fn x bc bs n c W ((Same.of_below hb).cell hc) ((Same.of_below hb).cell hs)) A cp hS)
  clear h hS hc hs
  go_enter Try.func89, Try.ntmps89
  go_wp2_with fail
  refine HI.out.mono ?_
  rintro e w2 ⟨rfl, hb⟩
  have HB := Lib.hid hb
  clear hb
  go_wp2_with fail
  go_ret
  exact ⟨rfl, HB.out⟩
set_option maxHeartbeats 1000000 in
theorem with_any (h : Gp B w g ms mv iv S) (n : Int) (c : ByteArray) :
    Calls Try.prog 94 #[.pointer (some ⟨g, 0, none⟩), .int .i64 n, .string c] w fun e w' => e = .returned (.int .i64 (gidx S.I (isWith n c))) ∧ Below w.heap.size w w' := by
  have hb1 := alloc_below w (.cells #[.int .i64 n] 3)
  have z1 := heap_alloc_new w (.cells #[.int .i64 n] 3)
  have s1 : (w.alloc (.cells #[.int .i64 n] 3)).heap.size = w.heap.size + 1 := by simp
  have hb2 := alloc_below (w.alloc (.cells #[.int .i64 n] 3)) (.cells #[.string c] 9)
  have z2 := heap_alloc_new (w.alloc (.cells #[.int .i64 n] 3)) (.cells #[.string c] 9)
  rw [s1] at z2
  have hb := hb1.trans (hb2.mono hb1.size)
  have HI := Lib.hid (index2_any (h.below hb) (w.heap.size + 1) w.heap.size n c (cell_of z2 rfl) (cell_of ((hb2.block _ (by rw [s1]; omega)).trans z1) rfl))
  have HB := Lib.hid hb
  clear h hb1 z1 hb2 z2 hb s1
  go_enter Try.func94, Try.ntmps94
  go_wp2_with fail
  refine HI.out.mono ?_
  rintro e w2 ⟨rfl, hb⟩
  have HB2 := Lib.hid (then_below HB.out hb)
  clear hb
  go_wp2_with fail
  go_ret
  exact ⟨rfl, HB2.out⟩
/-- Where a message is with a client, and what is left when it is done. -/
theorem gidx_bd {α : Type} (l : List α) (p : α → Bool) : gidx l p = -1 ∨ ∃ (k : Nat) (x : α), gidx l p = (k : Int) ∧ l[k]? = some x ∧ p x = true := by
  rcases gidx_cases l p with ⟨h, _⟩ | ⟨k, x, h, hx, hp, _⟩
  · exact .inl h
  · exact .inr ⟨k, x, h, hx, hp⟩
def doneP (S : GS) (n : Int) (c : ByteArray) : GS := { S with I := if 0 ≤ gidx S.I (isWith n c) then S.I.eraseIdx (gidx S.I (isWith n c)).toNat else S.I }
set_option maxHeartbeats 4000000 in
theorem done_any (h : Gp B w g ms mv iv S) (hI : S.I.length < 1000000) (n : Int) (c : ByteArray) :
    Calls Try.prog 66 #[.pointer (some ⟨g, 0, none⟩), .int .i64 n, .string c] w (MPost B w g ms (decide (0 ≤ gidx S.I (isWith n c))) (doneP S n c)) := by
  have HW := Lib.hid (with_any h n c)
  have HH := Lib.hid h
  unfold doneP
  rcases gidx_bd S.I (isWith n c) with hi | ⟨k, x, hi, hx, hp⟩
  · rw [hi] at HW ⊢
    rw [if_neg (by decide), decide_eq_false (by decide)]
    generalize hP : MPost B w g ms false { S with I := S.I } = PP
    have HPP := Lib.hid (show ∀ w', Gp B w' g ms mv iv S → Gf B w w' → PP (.returned (.bool false)) w' from fun w' h1 h2 => by
      rw [← hP]
      exact ⟨mv, iv, rfl, h1, h2⟩)
    clear h hP hi
    go_enter Try.func66, Try.ntmps66
    go_wp2_with fail
    refine HW.out.mono ?_
    rintro e w2 ⟨rfl, hb⟩
    have HE := Lib.hid (HPP.out w2 (HH.out.below hb) (Gf.of_below hb))
    clear hb
    go_wp2_with fail
    exact HE.out
  · rw [hi] at HW ⊢
    have hlt := (List.getElem?_eq_some_iff.1 hx).1
    rw [if_pos (by omega), decide_eq_true (by omega), Int.toNat_natCast]
    generalize hP : MPost B w g ms true { S with I := S.I.eraseIdx k } = PP
    have HPP := Lib.hid (show ∀ iv' w', Gp B w' g ms mv iv' { S with I := S.I.eraseIdx k } → Gf B w w' → PP (.returned (.bool true)) w' from fun iv' w' h1 h2 => by
      rw [← hP]
      exact ⟨mv, iv', rfl, h1, h2⟩)
    obtain ⟨gi, cp, hv, -, -⟩ := own_elem vals_len h.own hx
    obtain ⟨m, hm⟩ : ∃ m, S.I.length = m + 1 := ⟨S.I.length - 1, by omega⟩
    have HV := Lib.hid hv
    have HM := Lib.hid hm
    have k0 : ¬ (k : Int) < 0 := by omega
    have hka : IntKind.i64.wrap ((k : Int) + 1) = (k : Int) + 1 := IntWalk.i64_in _ (by omega)
    clear h hP hi hp hv
    go_enter Try.func66, Try.ntmps66
    go_wp2_with fail
    refine HW.out.mono ?_
    rintro e w2 ⟨rfl, hb⟩
    have hG2 := HH.out.below hb
    have c4 := hG2.c4
    have f4 := free_of hG2.st 4
    rw [HV.out, HM.out] at c4
    have hown := hG2.own
    rw [HV.out] at hown
    have HD := Lib.hid (deleteI_any w2 gi cp m k S.I hown HM.out (by omega) hI)
    have HG2 := Lib.hid hG2
    have HB2 := Lib.hid hb
    clear hG2 hown hb
    go_wp2_with fail
    refine HD.out.mono ?_
    rintro e w3 ⟨rfl, ho3, ht3⟩
    have hne : gi ≠ g := HG2.out.gi gi (by rw [HV.out]; rfl)
    have hst3 : w3.heap[g]? = w2.heap[g]? := ht3.block g (lt_of_block HG2.out.st) (by simpa using Ne.symm hne)
    have hst4 := hst3.trans HG2.out.st
    have c4' : w3.cell? ⟨g, 4, none⟩ = some iv := cell_of hst4 rfl
    have f4' := free_of hst4 4
    have hset := set_of hst4 4 (.slice (some ⟨gi, 0, none⟩) m cp)
    have hlen : (S.I.eraseIdx k).length = m := by rw [List.length_eraseIdx, if_pos (by omega)]; omega
    have HT := Lib.hid (HG2.out.turn (w' := w3.setCell ⟨g, 4, none⟩ (.slice (some ⟨gi, 0, none⟩) m cp)) (iv' := .slice (some ⟨gi, 0, none⟩) m cp) (S' := { S with I := S.I.eraseIdx k }) rfl rfl
      ((ht3.mono (by intro i hi; rw [HV.out]; simp [Value.ownBlock] at hi ⊢; exact .inr hi)).trans ((Tch.refl _ _).setCell (p := ⟨g, 4, none⟩) (.inl (by simp)) _))
      (by simpa using hset) (by
        rw [hlen]
        exact own_kept ho3 (S := [g]) ((Tch.refl _ _).setCell (p := ⟨g, 4, none⟩) (.inl (by simp)) _) (by
          intro j hj hm
          have : gi = j := by simpa [Value.ownBlock] using hj
          subst this
          exact hne (by simpa using hm)))
      (fun j hj => .inl (by rw [HV.out]; simpa [Value.ownBlock] using hj)) (fun hg z hz => (HG2.out.each z (List.mem_of_mem_eraseIdx hz)).gf hg))
    have HF := Lib.hid (Gf.of_below (B := B) HB2.out)
    clear ho3 ht3 hst3 hst4 hset c4 f4
    rw [HV.out, HM.out] at c4'
    go_wp2_with fail
    exact HPP.out _ _ HT.out.1 (HF.out.trans HT.out.2)
end
end Go.Proofs.Ytclhgnlhejohgaa.GrpW
