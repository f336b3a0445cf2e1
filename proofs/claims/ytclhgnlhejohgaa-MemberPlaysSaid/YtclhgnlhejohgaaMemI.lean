/- The reference's members. -/
import Derived.Test.YtclhgnlhejohgaaMemF
import Derived.Test.YtclhgnlhejohgaaMemRef
import Derived.Deep.RegionHeld3
import Derived.Deep.RegionHeld3
import Derived.Deep.RegionHeld3
set_option linter.unusedVariables false
set_option linter.unusedSimpArgs false
namespace Go.Proofs.Ytclhgnlhejohgaa.MemW
open Go.RowKit Go.Proofs.Ytclhgnlhejohgaa.Tc Go.Proofs.Ytclhgnlhejohgaa.MemP
open Go.Proofs.Ytclhgnlhejohgaa.PickW (OwnS Newer kS kI cells9 str_cell strs_new alloc_below)

/-- A reference Members: its struct's block, its members, its generation. -/
structure RAt (w : World) (s : Nat) (v : Value) (l : List Mem) (gen : Int) : Prop where
  st : w.heap[s]? = some (.cells #[v, .int .i64 gen] 60 (0, 0))
  row : Row w v l
theorem RAt.kept {S : List Nat} {w w' : World} {s : Nat} {v : Value} {l : List Mem} {gen : Int} (h : RAt w s v l gen) (ht : Tch S w w') (hs : s ∉ S) (hv : ∀ g, v.ownBlock = some g → g ∉ S) : RAt w' s v l gen :=
  ⟨(ht.block s (lt_of_block h.st) hs).trans h.st, h.row.kept ht hv⟩
theorem RAt.below {w w' : World} {s : Nat} {v : Value} {l : List Mem} {gen : Int} (h : RAt w s v l gen) (hb : Below w.heap.size w w') : RAt w' s v l gen := h.kept (Tch.of_below (S := []) hb) (by simp) (by simp)
theorem RAt.ne {w : World} {s : Nat} {v : Value} {l : List Mem} {gen : Int} (h : RAt w s v l gen) : ∀ g, v.ownBlock = some g → g ≠ s := own_type_ne h.row.own h.st (by decide)
theorem rl_take {l : List Mem} {k : Nat} {x : Mem} (h : l[k]? = some x) (kind : Int) (c : ByteArray) (q : Int) : rl kind c q (l.take (k + 1)) = rl kind c q (l.take k) ++ (mod kind c q x).toList := by
  obtain ⟨hk, hx⟩ := List.getElem?_eq_some_iff.1 h
  unfold rl
  rw [List.take_succ_eq_append_getElem hk, List.filterMap_append, hx, List.filterMap_cons]
  cases mod kind c q x <;> rfl
theorem ris_take {l : List Mem} {k : Nat} {x : Mem} (h : l[k]? = some x) (c : ByteArray) : ris c (l.take (k + 1)) = (ris c (l.take k) || decide (x.client = c)) := by
  obtain ⟨hk, hx⟩ := List.getElem?_eq_some_iff.1 h
  unfold ris
  rw [List.take_succ_eq_append_getElem hk, List.any_append, hx]
  simp
theorem rch_take {l : List Mem} {k : Nat} {x : Mem} (h : l[k]? = some x) (kind : Int) (c : ByteArray) : rch kind c (l.take (k + 1)) = (rch kind c (l.take k) || hit kind c x) := by
  obtain ⟨hk, hx⟩ := List.getElem?_eq_some_iff.1 h
  unfold rch
  rw [List.take_succ_eq_append_getElem hk, List.any_append, hx]
  simp
theorem rl_len (kind : Int) (c : ByteArray) (q : Int) (l : List Mem) : (rl kind c q l).length ≤ l.length := List.length_filterMap_le _ _
theorem first_match {l : List Mem} {gen : Int} (hi : MemP.Inv l gen) {k : Nat} {x : Mem} (hx : l[k]? = some x) (kind : Int) : rch kind x.client (l.take k) = false := by
  obtain ⟨_, hb, _⟩ := split_at hi hx
  exact rch_none hb
/-- What an append of a member comes to, in whatever world grew from the loop's. -/
theorem snoc_any {w wr : World} {v : Value} {l : List Mem} (hB : Below w.heap.size w wr) (hO : Row wr v l) (hN : Newer w v) (hl : l.length < 1000000) (W : World) (hW : Below wr.heap.size wr W) (y : Mem) (hy : wf y) :
    ∃ v' w', (Builtin.append_ #[55, 55] 55 #[v, .slice (some ⟨W.heap.size, 0, none⟩) 1 1]).run Try.prog (W.alloc (.cells (vals y).toArray 66)) = .ok v' w' ∧ Row w' v' (l ++ [y]) ∧ Below w.heap.size w w' ∧ Newer w v' := by
  have hO2 : Row W v l := hO.kept (S := []) (Tch.of_below hW) (by simp)
  obtain ⟨v', w', hr, ho, ht, hloc⟩ := hO2.snoc hl y hy
  have hb2 := then_below hB hW
  exact ⟨v', w', hr, ho, hN.below hb2 ht, hN.step hb2 hloc⟩
theorem rfin {w W : World} {s : Nat} {v v' : Value} {l l' : List Mem} {gen : Int} (h : RAt W s v l gen) (hb : Below w.heap.size w W) (ho : Row W v' l') :
    RAt (W.setCell ⟨s, 0, none⟩ v') s v' l' gen ∧ RAt ((W.setCell ⟨s, 0, none⟩ v').setCell ⟨s, 1, none⟩ (.int .i64 (gen + 1))) s v' l' (gen + 1) ∧ Tch [s] w (W.setCell ⟨s, 0, none⟩ v') ∧ Tch [s] w ((W.setCell ⟨s, 0, none⟩ v').setCell ⟨s, 1, none⟩ (.int .i64 (gen + 1))) := by
  have hne : ∀ g, v'.ownBlock = some g → g ∉ [s] := by intro g hg; simpa using own_type_ne ho.own h.st (by decide) g hg
  have t0 : Tch [s] W (W.setCell ⟨s, 0, none⟩ v') := (Tch.refl _ W).setCell (p := ⟨s, 0, none⟩) (.inl (by simp)) _
  have t1 : Tch [s] W ((W.setCell ⟨s, 0, none⟩ v').setCell ⟨s, 1, none⟩ (.int .i64 (gen + 1))) := t0.setCell (p := ⟨s, 1, none⟩) (.inl (by simp)) _
  have h0 : (W.setCell ⟨s, 0, none⟩ v').heap[s]? = some (.cells #[v', .int .i64 gen] 60 (0, 0)) := set_of h.st 0 v'
  have h1 : ((W.setCell ⟨s, 0, none⟩ v').setCell ⟨s, 1, none⟩ (.int .i64 (gen + 1))).heap[s]? = some (.cells #[v', .int .i64 (gen + 1)] 60 (0, 0)) := set_of h0 1 _
  exact ⟨⟨h0, ho.kept t0 hne⟩, ⟨h1, ho.kept t1 hne⟩, (Tch.of_below hb).trans t0, (Tch.of_below hb).trans t1⟩
set_option maxRecDepth 100000 in
set_option maxHeartbeats 4000000 in
theorem rdo_any (w : World) (s : Nat) (v : Value) (l : List Mem) (gen : Int) (h : RAt w s v l gen) (hi : MemP.Inv l gen) (hl : l.length < 1000000) (hg0 : 0 ≤ gen) (hg1 : gen < 1000000) (kind : Int) (c : ByteArray) (hc : c.size ≤ maxLen) (q : Int) (hq : (Lit.int .i64 q).wf = true) :
    Calls Try.prog 46 #[.pointer (some ⟨s, 0, none⟩), .agg #[.int .i64 kind, .string c, .int .i64 q]] w fun e w' => ∃ v', e = .returned (.bool (ract l gen kind c q).1) ∧ RAt w' s v' (ract l gen kind c q).2.1 (ract l gen kind c q).2.2 ∧ Newer w v' ∧ Tch [s] w w' := by
  generalize hP : (fun (e : Ending) (w' : World) => ∃ v', e = .returned (.bool (ract l gen kind c q).1) ∧ RAt w' s v' (ract l gen kind c q).2.1 (ract l gen kind c q).2.2 ∧ Newer w v' ∧ Tch [s] w w') = PP
  have HPP := Lib.hid (show ∀ (v' : Value) (w' : World), RAt w' s v' (ract l gen kind c q).2.1 (ract l gen kind c q).2.2 → Newer w v' → Tch [s] w w' → PP (.returned (.bool (ract l gen kind c q).1)) w' by
    intro v' w' h1 h2 h3
    rw [← hP]
    exact ⟨v', rfl, h1, h2, h3⟩)
  clear hP
  have hb0 := alloc_below w (.cells #[.int .i64 kind, .string c, .int .i64 q] 63)
  have ha0 := heap_alloc_new w (.cells #[.int .i64 kind, .string c, .int .i64 q] 63)
  have HH := Lib.hid (h.below hb0)
  have HA0 := Lib.hid ha0
  have HB0 := Lib.hid hb0
  have HI := Lib.hid hi
  obtain ⟨A, cap, rfl, -⟩ := h.row.form
  clear h hb0 ha0 hi
  obtain ⟨w0, hw0⟩ : ∃ w0, w0 = w.alloc (.cells #[.int .i64 kind, .string c, .int .i64 q] 63) := ⟨_, rfl⟩
  rw [← hw0] at HH HA0 HB0
  have HW0 := Lib.hid hw0
  clear hw0
  go_enter Try.func46, Try.ntmps46
  go_upto_region 3 with (fail)
  rw [← HW0.out]
  go_wp2_with fail
  go_loopw [5, 6, 7, 8] (fun o is ch x wr => ∃ k : Nat, k ≤ l.length ∧ x = .int .i64 k ∧ is = .bool (ris c (l.take k)) ∧ ch = .bool (rch kind c (l.take k)) ∧ Below w0.heap.size w0 wr ∧ Row wr o (rl kind c q (l.take k)) ∧ Newer w0 o) (fun _ _ _ x _ => l.length - (intOf x).toNat)
  case atStart => exact ⟨0, by omega, rfl, rfl, rfl, Below.refl _ _, Row.nil _, PickW.Newer.nil _⟩
  case round =>
    obtain ⟨k, hk, rfl, rfl, rfl, hB, hO, hN⟩ := hrel
    have hr := HH.out.below hB
    have s0 : wr.cell? ⟨s, 0, none⟩ = some (.slice A l.length cap) := cell_of hr.st rfl
    have ha := (hB.block _ (lt_of_block HA0.out)).trans HA0.out
    have a0 : wr.cell? ⟨w.heap.size, 0, none⟩ = some (.int .i64 kind) := cell_of ha rfl
    have a1 : wr.cell? ⟨w.heap.size, 1, none⟩ = some (.string c) := cell_of ha rfl
    have a2 : wr.cell? ⟨w.heap.size, 2, none⟩ = some (.int .i64 q) := cell_of ha rfl
    have HB := Lib.hid hB
    have HO := Lib.hid hO
    have HN := Lib.hid hN
    have HR := Lib.hid hr
    clear hr ha hN
    by_cases hlk : k < l.length
    · obtain ⟨x, hx⟩ : ∃ x, l[k]? = some x := ⟨_, List.getElem?_eq_getElem hlk⟩
      obtain ⟨A1, cap1, hA1, hS⟩ := HR.out.row.form
      injection hA1 with hA1 _ _
      subst hA1
      obtain ⟨b, off, rfl, -, c0, c1, c2, c3, hw⟩ := mem_cells hS hx
      have hol := rl_len kind c q (l.take k)
      rw [List.length_take] at hol
      have HRL := Lib.hid (rl_take hx kind c q)
      have HRI := Lib.hid (ris_take hx c)
      have HRC := Lib.hid (rch_take hx kind c)
      have HX := Lib.hid hx
      have HWF := Lib.hid hw
      obtain ⟨Ao, co, rfl, -⟩ := hO.form
      have HSN := Lib.hid (fun W hW y hy => snoc_any HB.out HO.out HN.out (by omega) W hW y hy)
      clear hx hw hS hB hO
      have b0 : (wr.alloc (.cells #[.string x.client, .int .i64 x.since, .int .i64 x.qos, .bool x.online] 66)).cell? ⟨w.heap.size, 0, none⟩ = some (.int .i64 kind) := Lib.cell?_alloc_some _ a0
      have b1 : (wr.alloc (.cells #[.string x.client, .int .i64 x.since, .int .i64 x.qos, .bool x.online] 66)).cell? ⟨w.heap.size, 1, none⟩ = some (.string c) := Lib.cell?_alloc_some _ a1
      have b2 : (wr.alloc (.cells #[.string x.client, .int .i64 x.since, .int .i64 x.qos, .bool x.online] 66)).cell? ⟨w.heap.size, 2, none⟩ = some (.int .i64 q) := Lib.cell?_alloc_some _ a2
      by_cases h1 : x.client = c
      · have t1 := str_eq h1
        have hd : decide (x.client = c) = true := decide_eq_true h1
        have hfm : rch kind c (l.take k) = false := by rw [← h1]; exact first_match HI.out HX.out kind
        by_cases k1 : kind = 1
        · subst k1
          have hm : mod 1 c q x = some { x with qos := q } := by simp [mod, h1]
          obtain ⟨v', w', hr', ho', hb', hn'⟩ := HSN.out (wr.alloc (.cells #[.string x.client, .int .i64 x.since, .int .i64 q, .bool x.online] 66)) (alloc_below wr _) { x with qos := q } ⟨HWF.out.1, HWF.out.2.1, hq⟩
          have hsz : (wr.alloc (.cells #[.string x.client, .int .i64 x.since, .int .i64 q, .bool x.online] 66)).heap.size = wr.heap.size + 1 := by simp
          rw [hsz] at hr'
          have HE := Lib.hid (show Row w' v' (rl 1 c q (l.take (k + 1))) by rw [HRL.out, hm]; exact ho')
          have HE1 := Lib.hid (show ris c (l.take (k + 1)) = true by rw [HRI.out, hd, Bool.or_true])
          have HE2 := Lib.hid (show rch 1 c (l.take (k + 1)) = rch 1 c (l.take k) by rw [HRC.out]; simp [hit])
          have HB' := Lib.hid hb'
          have HN' := Lib.hid hn'
          have HRUN := Lib.hid hr'
          clear hm hd ho' hb' hn' hr' hsz h1 HRL HRI HRC HSN hfm
          unfold vals at HRUN
          go_wp2_with (at_builtin; refine wpList_append_eq rfl _ _ _ rfl rfl rfl HRUN.out ?_)
          go_roundw
          case rel => exact ⟨k + 1, by omega, by go_num, by rw [HE1.out], by rw [HE2.out], HB'.out, HE.out, HN'.out⟩
          case measure => simp [intOf]; omega
        · by_cases k2 : kind = 2
          · subst k2
            have HE := Lib.hid (show Row (wr.alloc (.cells #[.string x.client, .int .i64 x.since, .int .i64 x.qos, .bool x.online] 66)) (.slice Ao (rl 2 c q (l.take k)).length co) (rl 2 c q (l.take (k + 1))) by
              rw [HRL.out, show mod 2 c q x = none by simp [mod, h1]]
              simpa using HO.out.kept (S := []) (Tch.of_below (alloc_below wr _)) (by simp))
            have HB' := Lib.hid (then_below HB.out (alloc_below wr (.cells #[.string x.client, .int .i64 x.since, .int .i64 x.qos, .bool x.online] 66)))
            have HE1 := Lib.hid (show ris c (l.take (k + 1)) = true by rw [HRI.out, hd, Bool.or_true])
            have HE2 := Lib.hid (show rch 2 c (l.take (k + 1)) = true by rw [HRC.out]; simp [hit, h1])
            clear hd h1 HRL HRI HRC HSN hfm
            go_wp2_with fail
            go_roundw
            case rel => exact ⟨k + 1, by omega, by go_num, by rw [HE1.out], by rw [HE2.out], HB'.out, HE.out, HN.out⟩
            case measure => simp [intOf]; omega
          · by_cases k3 : kind = 3
            · subst k3
              cases hon : x.online
              · rw [hon] at c3 b0 b1 b2
                have hm : mod 3 c q x = some { x with online := true } := by simp [mod, h1]
                obtain ⟨v', w', hr', ho', hb', hn'⟩ := HSN.out (wr.alloc (.cells #[.string x.client, .int .i64 x.since, .int .i64 x.qos, .bool true] 66)) (alloc_below wr _) { x with online := true } HWF.out
                have hsz : (wr.alloc (.cells #[.string x.client, .int .i64 x.since, .int .i64 x.qos, .bool true] 66)).heap.size = wr.heap.size + 1 := by simp
                rw [hsz] at hr'
                have HE := Lib.hid (show Row w' v' (rl 3 c q (l.take (k + 1))) by rw [HRL.out, hm]; exact ho')
                have HE1 := Lib.hid (show ris c (l.take (k + 1)) = true by rw [HRI.out, hd, Bool.or_true])
                have HE2 := Lib.hid (show rch 3 c (l.take (k + 1)) = true by rw [HRC.out, hfm]; simp [hit, h1, hon])
                have HB' := Lib.hid hb'
                have HN' := Lib.hid hn'
                have HRUN := Lib.hid hr'
                clear hm hd ho' hb' hn' hr' hsz h1 HRL HRI HRC HSN hfm
                unfold vals at HRUN
                go_wp2_with (at_builtin; refine wpList_append_eq rfl _ _ _ rfl rfl rfl HRUN.out ?_)
                go_roundw
                case rel => exact ⟨k + 1, by omega, by go_num, by rw [HE1.out], by rw [HE2.out], HB'.out, HE.out, HN'.out⟩
                case measure => simp [intOf]; omega
              · rw [hon] at c3 b0 b1 b2
                have hm : mod 3 c q x = some { x with online := true } := by simp [mod, h1]
                obtain ⟨v', w', hr', ho', hb', hn'⟩ := HSN.out (wr.alloc (.cells #[.string x.client, .int .i64 x.since, .int .i64 x.qos, .bool true] 66)) (alloc_below wr _) { x with online := true } HWF.out
                have hsz : (wr.alloc (.cells #[.string x.client, .int .i64 x.since, .int .i64 x.qos, .bool true] 66)).heap.size = wr.heap.size + 1 := by simp
                rw [hsz] at hr'
                have HE := Lib.hid (show Row w' v' (rl 3 c q (l.take (k + 1))) by rw [HRL.out, hm]; exact ho')
                have HE1 := Lib.hid (show ris c (l.take (k + 1)) = true by rw [HRI.out, hd, Bool.or_true])
                have HE2 := Lib.hid (show rch 3 c (l.take (k + 1)) = false by rw [HRC.out, hfm]; simp [hit, h1, hon])
                have HB' := Lib.hid hb'
                have HN' := Lib.hid hn'
                have HRUN := Lib.hid hr'
                clear hm hd ho' hb' hn' hr' hsz h1 HRL HRI HRC HSN hfm
                unfold vals at HRUN
                go_wp2_with (at_builtin; refine wpList_append_eq rfl _ _ _ rfl rfl rfl HRUN.out ?_)
                go_roundw
                case rel => exact ⟨k + 1, by omega, by go_num, by rw [HE1.out], by rw [HE2.out], HB'.out, HE.out, HN'.out⟩
                case measure => simp [intOf]; omega
            · by_cases k4 : kind = 4
              · subst k4
                cases hon : x.online
                · rw [hon] at c3 b0 b1 b2
                  have hm : mod 4 c q x = some { x with online := false } := by simp [mod, h1]
                  obtain ⟨v', w', hr', ho', hb', hn'⟩ := HSN.out (wr.alloc (.cells #[.string x.client, .int .i64 x.since, .int .i64 x.qos, .bool false] 66)) (alloc_below wr _) { x with online := false } HWF.out
                  have hsz : (wr.alloc (.cells #[.string x.client, .int .i64 x.since, .int .i64 x.qos, .bool false] 66)).heap.size = wr.heap.size + 1 := by simp
                  rw [hsz] at hr'
                  have HE := Lib.hid (show Row w' v' (rl 4 c q (l.take (k + 1))) by rw [HRL.out, hm]; exact ho')
                  have HE1 := Lib.hid (show ris c (l.take (k + 1)) = true by rw [HRI.out, hd, Bool.or_true])
                  have HE2 := Lib.hid (show rch 4 c (l.take (k + 1)) = false by rw [HRC.out, hfm]; simp [hit, h1, hon])
                  have HB' := Lib.hid hb'
                  have HN' := Lib.hid hn'
                  have HRUN := Lib.hid hr'
                  clear hm hd ho' hb' hn' hr' hsz h1 HRL HRI HRC HSN hfm
                  unfold vals at HRUN
                  go_wp2_with (at_builtin; refine wpList_append_eq rfl _ _ _ rfl rfl rfl HRUN.out ?_)
                  go_roundw
                  case rel => exact ⟨k + 1, by omega, by go_num, by rw [HE1.out], by rw [HE2.out], HB'.out, HE.out, HN'.out⟩
                  case measure => simp [intOf]; omega
                · rw [hon] at c3 b0 b1 b2
                  have hm : mod 4 c q x = some { x with online := false } := by simp [mod, h1]
                  obtain ⟨v', w', hr', ho', hb', hn'⟩ := HSN.out (wr.alloc (.cells #[.string x.client, .int .i64 x.since, .int .i64 x.qos, .bool false] 66)) (alloc_below wr _) { x with online := false } HWF.out
                  have hsz : (wr.alloc (.cells #[.string x.client, .int .i64 x.since, .int .i64 x.qos, .bool false] 66)).heap.size = wr.heap.size + 1 := by simp
                  rw [hsz] at hr'
                  have HE := Lib.hid (show Row w' v' (rl 4 c q (l.take (k + 1))) by rw [HRL.out, hm]; exact ho')
                  have HE1 := Lib.hid (show ris c (l.take (k + 1)) = true by rw [HRI.out, hd, Bool.or_true])
                  have HE2 := Lib.hid (show rch 4 c (l.take (k + 1)) = true by rw [HRC.out, hfm]; simp [hit, h1, hon])
                  have HB' := Lib.hid hb'
                  have HN' := Lib.hid hn'
                  have HRUN := Lib.hid hr'
                  clear hm hd ho' hb' hn' hr' hsz h1 HRL HRI HRC HSN hfm
                  unfold vals at HRUN
                  go_wp2_with (at_builtin; refine wpList_append_eq rfl _ _ _ rfl rfl rfl HRUN.out ?_)
                  go_roundw
                  case rel => exact ⟨k + 1, by omega, by go_num, by rw [HE1.out], by rw [HE2.out], HB'.out, HE.out, HN'.out⟩
                  case measure => simp [intOf]; omega
              · skip
                have hm : mod kind c q x = some x := by simp [mod, h1, k1, k2, k3, k4]
                obtain ⟨v', w', hr', ho', hb', hn'⟩ := HSN.out (wr.alloc (.cells #[.string x.client, .int .i64 x.since, .int .i64 x.qos, .bool x.online] 66)) (alloc_below wr _) x HWF.out
                have hsz : (wr.alloc (.cells #[.string x.client, .int .i64 x.since, .int .i64 x.qos, .bool x.online] 66)).heap.size = wr.heap.size + 1 := by simp
                rw [hsz] at hr'
                have HE := Lib.hid (show Row w' v' (rl kind c q (l.take (k + 1))) by rw [HRL.out, hm]; exact ho')
                have HE1 := Lib.hid (show ris c (l.take (k + 1)) = true by rw [HRI.out, hd, Bool.or_true])
                have HE2 := Lib.hid (show rch kind c (l.take (k + 1)) = rch kind c (l.take k) by rw [HRC.out]; simp [hit, k2, k3, k4])
                have HB' := Lib.hid hb'
                have HN' := Lib.hid hn'
                have HRUN := Lib.hid hr'
                clear hm hd ho' hb' hn' hr' hsz h1 HRL HRI HRC HSN hfm
                unfold vals at HRUN
                go_wp2_with (at_builtin; refine wpList_append_eq rfl _ _ _ rfl rfl rfl HRUN.out ?_)
                go_roundw
                case rel => exact ⟨k + 1, by omega, by go_num, by rw [HE1.out], by rw [HE2.out], HB'.out, HE.out, HN'.out⟩
                case measure => simp [intOf]; omega
      · have t1 := str_ne h1
        have hm : mod kind c q x = some x := by unfold mod; rw [if_pos h1]
        have hh : hit kind c x = false := by simp [hit, h1]
        have hd : decide (x.client = c) = false := decide_eq_false h1
        obtain ⟨v', w', hr', ho', hb', hn'⟩ := HSN.out (wr.alloc (.cells (vals x).toArray 66)) (alloc_below wr _) x HWF.out
        have hsz : (wr.alloc (.cells (vals x).toArray 66)).heap.size = wr.heap.size + 1 := by simp
        rw [hsz] at hr'
        have HE := Lib.hid (show Row w' v' (rl kind c q (l.take (k + 1))) by rw [HRL.out, hm]; exact ho')
        have HE1 := Lib.hid (show ris c (l.take k) = ris c (l.take (k + 1)) by rw [HRI.out, hd, Bool.or_false])
        have HE2 := Lib.hid (show rch kind c (l.take k) = rch kind c (l.take (k + 1)) by rw [HRC.out, hh, Bool.or_false])
        have HB' := Lib.hid hb'
        have HN' := Lib.hid hn'
        have HRUN := Lib.hid hr'
        clear hm hh hd ho' hb' hn' hr' hsz h1 HRL HRI HRC HSN
        unfold vals at HRUN
        go_wp2_with (at_builtin; refine wpList_append_eq rfl _ _ _ rfl rfl rfl HRUN.out ?_)
        go_roundw
        case rel => exact ⟨k + 1, by omega, by go_num, by rw [HE1.out], by rw [HE2.out], HB'.out, HE.out, HN'.out⟩
        case measure => simp [intOf]; omega
    · obtain rfl : k = l.length := by omega
      rw [List.take_length] at hO
      have hol := rl_len kind c q l
      have s1 : wr.cell? ⟨s, 1, none⟩ = some (.int .i64 gen) := cell_of HR.out.st rfl
      have fs0 := free_of HR.out.st 0
      have hbw := (then_below HB0.out hB)
      obtain ⟨Ao, co, rfl, -⟩ := hO.form
      obtain ⟨r1, r2, r3, r4⟩ := rfin HR.out hbw hO
      have hnw : Newer w (.slice Ao (rl kind c q l).length co) := fun g hg => Nat.le_trans HB0.out.size (HN.out g hg)
      have s5 := cell_of r1.st (o := 1) (v := .int .i64 gen) rfl
      have fs1 := free_of r1.st 1
      clear hB
      rw [List.take_length] at *
      by_cases hk1 : kind = 1 ∧ ris c l = false
      · obtain ⟨rfl, hris⟩ := hk1
        have HRA := Lib.hid (show ract l gen 1 c q = (true, rl 1 c q l ++ [⟨c, gen + 1, q, true⟩], gen + 1) by unfold ract; rw [if_pos ⟨rfl, hris⟩])
        obtain ⟨v4, w4, hr4, ho4, hb4, hn4⟩ := snoc_any HB.out hO HN.out (by omega) wr.drew ((Dr.below (dr_drew wr))) ⟨c, gen + 1, q, true⟩ ⟨hc, gen_wf hg0 hg1, hq⟩
        rw [show wr.drew.heap.size = wr.heap.size from rfl] at hr4
        have hbw4 := then_below HB0.out hb4
        have hr := HH.out.below hb4
        obtain ⟨q1, q2, q3, q4⟩ := rfin hr hbw4 ho4
        have hn4' : Newer w v4 := fun g hg => Nat.le_trans HB0.out.size (hn4 g hg)
        have ha4 := (hb4.block _ (lt_of_block HA0.out)).trans HA0.out
        have HE := Lib.hid (show PP (.returned (.bool true)) ((w4.setCell ⟨s, 0, none⟩ v4).setCell ⟨s, 1, none⟩ (.int .i64 (gen + 1))) by
          have := HPP.out v4 ((w4.setCell ⟨s, 0, none⟩ v4).setCell ⟨s, 1, none⟩ (.int .i64 (gen + 1)))
          rw [HRA.out] at this
          exact this q2 hn4' q4)
        have e0 := cell_of hr.st (o := 0) rfl
        have e1 := cell_of hr.st (o := 1) (v := .int .i64 gen) rfl
        have e2 := free_of hr.st 0
        have g1 := cell_of ha4 (o := 1) (v := .string c) rfl
        have g2 := cell_of ha4 (o := 2) (v := .int .i64 q) rfl
        have u5 := cell_of q1.st (o := 1) (v := .int .i64 gen) rfl
        have u6 := free_of q1.st 1
        have HRUN := Lib.hid hr4
        obtain ⟨A4, c4, rfl, -⟩ := ho4.form
        simp only [List.length_append, List.length_cons, List.length_nil, Nat.zero_add] at *
        rw [hris]
        clear r1 r2 r3 r4 s5 fs1 hnw hbw hO q1 q2 q3 q4 hn4 hn4' hb4 hbw4 hr ho4 ha4 hr4 hris HRA
        unfold vals at HRUN
        have hwr : IntKind.i64.wrap (gen + 1) = gen + 1 := by rw [IntKind.wrap_i64]; omega
        go_upto_region 22 with (fail)
        go_region_held3 (fun w' => w'.cell? ⟨w.heap.size, 1, none⟩ = some (.string c) ∧ w'.cell? ⟨w.heap.size, 2, none⟩ = some (.int .i64 q) ∧ w'.cell? ⟨s, 1, none⟩ = some (.int .i64 gen)) (go_keep)
          (refine step_append_eq (by rfl) _ _ _ (by rfl) (by rfl) (by rfl) HRUN.out ?_)
        all_goals go_wp2
        all_goals exact HE.out
      · have HRA := Lib.hid (show ract l gen kind c q = (rch kind c l, rl kind c q l, if rch kind c l = true then gen + 1 else gen) by unfold ract; rw [if_neg hk1])
        cases hrc : rch kind c l with
        | false =>
          have HE := Lib.hid (show PP (.returned (.bool false)) (wr.setCell ⟨s, 0, none⟩ (.slice Ao (rl kind c q l).length co)) by
            have := HPP.out (.slice Ao (rl kind c q l).length co) (wr.setCell ⟨s, 0, none⟩ (.slice Ao (rl kind c q l).length co))
            rw [HRA.out, hrc] at this
            exact this r1 hnw r3)
          clear r1 r2 r3 r4 hnw hbw HRA hO
          by_cases k1 : kind = 1
          · subst k1
            have hris : ris c l = true := by
              cases hq2 : ris c l with
              | true => rfl
              | false => exact absurd ⟨rfl, hq2⟩ hk1
            rw [hris]
            clear hk1 hris
            go_wp2_with fail
            exact HE.out
          · clear hk1
            go_wp2_with fail
            exact HE.out
        | true =>
          have HE := Lib.hid (show PP (.returned (.bool true)) ((wr.setCell ⟨s, 0, none⟩ (.slice Ao (rl kind c q l).length co)).setCell ⟨s, 1, none⟩ (.int .i64 (gen + 1))) by
            have := HPP.out (.slice Ao (rl kind c q l).length co) ((wr.setCell ⟨s, 0, none⟩ (.slice Ao (rl kind c q l).length co)).setCell ⟨s, 1, none⟩ (.int .i64 (gen + 1)))
            rw [HRA.out, hrc] at this
            exact this r2 hnw r4)
          clear r1 r2 r3 r4 hnw hbw HRA hO
          by_cases k1 : kind = 1
          · subst k1
            have hris : ris c l = true := by
              cases hq2 : ris c l with
              | true => rfl
              | false => exact absurd ⟨rfl, hq2⟩ hk1
            rw [hris]
            clear hk1 hris
            go_wp2_with fail
            exact HE.out
          · clear hk1
            go_wp2_with fail
            exact HE.out
end Go.Proofs.Ytclhgnlhejohgaa.MemW
