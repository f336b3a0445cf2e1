/- The reference's Get, Here, Owner. -/
import Derived.Test.YtclhgnlhejohgaaMemI
set_option linter.unusedVariables false
set_option linter.unusedSimpArgs false
namespace Go.Proofs.Ytclhgnlhejohgaa.MemW
open Go.RowKit Go.Proofs.Ytclhgnlhejohgaa.Tc Go.Proofs.Ytclhgnlhejohgaa.MemP
open Go.Proofs.Ytclhgnlhejohgaa.PickW (OwnS Newer kS kI cells9 str_cell strs_new alloc_below)

set_option maxRecDepth 100000 in
set_option maxHeartbeats 4000000 in
theorem rget_any (w : World) (s : Nat) (v : Value) (l : List Mem) (gen : Int) (h : RAt w s v l gen) (c : ByteArray) (hl : l.length < 1000000) :
    Calls Try.prog 48 #[.pointer (some ⟨s, 0, none⟩), .string c] w fun e w' => e = .returned (.tuple #[val ((MemP.get l c).getD zero), .bool (MemP.get l c).isSome]) ∧ Below w.heap.size w w' := by
  have hb0 := alloc_below w (.cells (vals zero).toArray 66)
  have hz0 := heap_alloc_new w (.cells (vals zero).toArray 66)
  have h0 := h.below hb0
  obtain ⟨w2, hw2⟩ : ∃ w2, w2 = w.alloc (.cells (vals zero).toArray 66) := ⟨_, rfl⟩
  rw [← hw2] at hb0 hz0 h0
  have HW2 := Lib.hid hw2
  have HB := Lib.hid hb0
  obtain ⟨A, cap, rfl, hS⟩ := h0.row.form
  have HS := Lib.hid hS
  have s0 : w2.cell? ⟨s, 0, none⟩ = some (.slice A l.length cap) := cell_of h0.st rfl
  have z0 := cell_of hz0 (o := 0) (v := .string ByteArray.empty) rfl
  have z1 := cell_of hz0 (o := 1) (v := .int .i64 0) rfl
  have z2 := cell_of hz0 (o := 2) (v := .int .i64 0) rfl
  have z3 := cell_of hz0 (o := 3) (v := .bool false) rfl
  have f0 := free_of hz0 0
  have f1 := free_of hz0 1
  have f2 := free_of hz0 2
  have f3 := free_of hz0 3
  have HZ := Lib.hid hz0
  clear h h0 hb0 hz0 hS hw2
  unfold vals at HW2
  go_enter Try.func48, Try.ntmps48
  go_upto_region 1 with (fail)
  have hw := HW2.out
  simp only [zero] at hw
  rw [show (ByteArray.empty : ByteArray) = ⟨#[]⟩ from rfl] at hw
  rw [← hw]
  clear hw
  go_wp2_with fail
  go_loopw [6] (fun x wr => ∃ k : Nat, k ≤ l.length ∧ x = .int .i64 k ∧ w2 = wr ∧ ∀ (j : Nat) (y : Mem), j < k → l[j]? = some y → y.client ≠ c) (fun x _ => l.length - (intOf x).toNat)
  case atStart => exact ⟨0, by omega, rfl, by first | rfl | trivial, by intro j y h; omega⟩
  case round =>
    obtain ⟨k, hk, rfl, rfl, hn⟩ := hrel
    have HN := Lib.hid hn
    clear hn
    by_cases hlk : k < l.length
    · obtain ⟨x, hx⟩ : ∃ x, l[k]? = some x := ⟨_, List.getElem?_eq_getElem hlk⟩
      obtain ⟨b, off, rfl, -, c0, c1, c2, c3, -⟩ := mem_cells HS.out hx
      have HX := Lib.hid hx
      clear hx
      by_cases h1 : x.client = c
      · have t1 := str_eq h1
        have HG := Lib.hid (show MemP.get l c = some x by unfold MemP.get; rw [find_at HX.out h1 HN.out]; exact HX.out)
        have hp := put4 HZ.out (.string x.client) (.int .i64 x.since) (.int .i64 x.qos) (.bool x.online)
        have p0 := cell_of hp (o := 0) (v := .string x.client) rfl
        have p1 := cell_of hp (o := 1) (v := .int .i64 x.since) rfl
        have p2 := cell_of hp (o := 2) (v := .int .i64 x.qos) rfl
        have p3 := cell_of hp (o := 3) (v := .bool x.online) rfl
        have HBE := Lib.hid (put4_below HB.out (.string x.client) (.int .i64 x.since) (.int .i64 x.qos) (.bool x.online))
        clear hp h1
        go_wp2_with fail
        exact bodyPost_ret (v := .tuple #[.agg #[.string x.client, .int .i64 x.since, .int .i64 x.qos, .bool x.online], .bool true]) (by simp [results, Try.results48, go_sem, *]) rfl ⟨by rw [HG.out]; rfl, HBE.out⟩
      · have t1 := str_ne h1
        have HN2 := Lib.hid (show ∀ (j : Nat) (y : Mem), j < k + 1 → l[j]? = some y → y.client ≠ c by
          intro j y hj hy
          by_cases e : j = k
          · subst e; rw [HX.out] at hy; injection hy with hy; subst hy; exact h1
          · exact HN.out j y (by omega) hy)
        clear h1
        go_wp2_with fail
        go_roundw
        case rel => exact ⟨k + 1, by omega, by go_num, by first | rfl | trivial, HN2.out⟩
        case measure => simp [intOf]; omega
    · obtain rfl : k = l.length := by omega
      have HG := Lib.hid (show MemP.get l c = none by unfold MemP.get; rw [find_no (fun j y hy => HN.out j y (List.getElem?_eq_some_iff.1 hy).1 hy)]; rfl)
      have hp := put4 HZ.out (.string ⟨#[]⟩) (.int .i64 0) (.int .i64 0) (.bool false)
      have p0 := cell_of hp (o := 0) (v := .string ⟨#[]⟩) rfl
      have p1 := cell_of hp (o := 1) (v := .int .i64 0) rfl
      have p2 := cell_of hp (o := 2) (v := .int .i64 0) rfl
      have p3 := cell_of hp (o := 3) (v := .bool false) rfl
      have HBE := Lib.hid (put4_below HB.out (.string ⟨#[]⟩) (.int .i64 0) (.int .i64 0) (.bool false))
      clear hp
      go_wp2_with fail
      exact bodyPost_ret (v := .tuple #[.agg #[.string ⟨#[]⟩, .int .i64 0, .int .i64 0, .bool false], .bool false]) (by simp [results, Try.results48, go_sem, *]) rfl ⟨by rw [HG.out]; rfl, HBE.out⟩
set_option maxRecDepth 100000 in
set_option maxHeartbeats 4000000 in
theorem rhere_any (w : World) (s : Nat) (v : Value) (l : List Mem) (gen : Int) (h : RAt w s v l gen) (hl : l.length < 1000000) :
    Calls Try.prog 53 #[.pointer (some ⟨s, 0, none⟩)] w fun e w' => (∃ v, e = .returned v ∧ OwnS w' v (here l)) ∧ Below w.heap.size w w' := by
  generalize hP : (fun (e : Ending) (w' : World) => (∃ v, e = .returned v ∧ OwnS w' v (here l)) ∧ Below w.heap.size w w') = PP
  have HPP := Lib.hid (show ∀ (v : Value) (w' : World), OwnS w' v (here l) → Below w.heap.size w w' → PP (.returned v) w' by
    intro v w' h hb
    rw [← hP]
    exact ⟨⟨v, rfl, h⟩, hb⟩)
  clear hP
  have HH := Lib.hid h
  obtain ⟨A, cap, rfl, -⟩ := h.row.form
  clear h
  go_enter Try.func53, Try.ntmps53
  go_wp2_with fail
  go_loopw [3, 4] (fun o x wr => ∃ k : Nat, k ≤ l.length ∧ x = .int .i64 k ∧ Below w.heap.size w wr ∧ OwnS wr o (here (l.take k)) ∧ Newer w o) (fun _ x _ => l.length - (intOf x).toNat)
  case atStart => exact ⟨0, by omega, rfl, Below.refl _ _, ⟨own_nil _ 9 1, by simp [here]⟩, PickW.Newer.nil _⟩
  case round =>
    obtain ⟨k, hk, rfl, hB, hO, hN⟩ := hrel
    have HB := Lib.hid hB
    have HN := Lib.hid hN
    have hr := HH.out.below hB
    have s0 : wr.cell? ⟨s, 0, none⟩ = some (.slice A l.length cap) := cell_of hr.st rfl
    clear hN
    by_cases hlt : k < l.length
    · obtain ⟨x, hx⟩ : ∃ x, l[k]? = some x := ⟨_, List.getElem?_eq_getElem hlt⟩
      have HT := here_take hx
      have hlen := here_len (l.take k)
      rw [List.length_take] at hlen
      obtain ⟨A1, cap1, hA1, hS⟩ := hr.row.form
      injection hA1 with hA1 _ _
      subst hA1
      obtain ⟨b, off, rfl, -, c0, c1, c2, c3, hw⟩ := mem_cells hS hx
      have HR := Lib.hid (show x.online = true → ∃ v' w', (Builtin.append_ #[26, 26] 26 #[u3, .slice (some ⟨wr.heap.size, 0, none⟩) 1 1]).run Try.prog (wr.alloc (.cells #[.string x.client] 9)) = .ok v' w' ∧
          Below w.heap.size w w' ∧ OwnS w' v' (here (l.take (k + 1))) ∧ Newer w v' by
        intro hq
        obtain ⟨v', w', hr, ho, ht, hloc⟩ := hO.snoc (by omega) x.client hw.1
        rw [HT, if_pos hq]
        exact ⟨v', w', hr, HN.out.below hB ht, ho, HN.out.step hB hloc⟩)
      have HF := Lib.hid (show x.online = false → OwnS wr u3 (here (l.take (k + 1))) by
        intro hq
        rw [HT, if_neg (by rw [hq]; decide)]
        exact hO)
      obtain ⟨A', cp', rfl, -⟩ := hO.form
      clear hO HT hw hx hB hS hr
      generalize x.online = on at c3 HR HF
      cases on with
      | false =>
        go_wp2_with fail
        go_roundw
        case rel => exact ⟨k + 1, by omega, by go_num, HB.out, HF.out rfl, HN.out⟩
        case measure => simp [intOf]; omega
      | true =>
        obtain ⟨v', w', hr, hb', ho', hn'⟩ := HR.out rfl
        have HRUN := Lib.hid hr
        have HB' := Lib.hid hb'
        have HO' := Lib.hid ho'
        have HN' := Lib.hid hn'
        clear hr hb' ho' hn' HR HF
        go_wp2_with (at_builtin; refine wpList_append_eq rfl _ _ _ rfl rfl rfl HRUN.out ?_)
        go_roundw
        case rel => exact ⟨k + 1, by omega, by go_num, HB'.out, HO'.out, HN'.out⟩
        case measure => simp [intOf]; omega
    · obtain rfl : k = l.length := by omega
      rw [List.take_length] at hO
      have HE := Lib.hid (HPP.out _ _ hO hB)
      obtain ⟨A', c', rfl, -⟩ := hO.form
      clear hB hO hr
      go_wp2_with fail
      exact HE.out
set_option maxRecDepth 100000 in
set_option maxHeartbeats 2000000 in
theorem rowner_any (w : World) (s : Nat) (v : Value) (l : List Mem) (gen : Int) (h : RAt w s v l gen) (hl : l.length < 1000000) :
    Calls Try.prog 55 #[.pointer (some ⟨s, 0, none⟩)] w fun e w' => e = .returned (.string (owner l)) ∧ Below w.heap.size w w' := by
  have HA := Lib.hid (rhere_any w s v l gen h hl)
  have hbd := here_len l
  clear h
  go_enter Try.func55, Try.ntmps55
  go_wp2_with fail
  refine HA.out.mono ?_
  rintro e w2 ⟨⟨va, rfl, ho⟩, hb⟩
  have HB := Lib.hid hb
  clear hb
  cases hh : here l with
  | nil =>
    have HO := Lib.hid (show owner l = ⟨#[]⟩ by unfold owner; rw [hh]; rfl)
    rw [hh] at ho
    obtain ⟨A, c, rfl, -⟩ := ho.form
    clear ho hh
    go_wp2
    go_ret
    exact ⟨by rw [HO.out]; rfl, HB.out⟩
  | cons x r =>
    have HO := Lib.hid (show owner l = x by unfold owner; rw [hh]; rfl)
    rw [hh] at ho hbd
    obtain ⟨b, off, c, rfl, hcell⟩ := own_str ho (k := 0) (x := x) rfl
    rw [Nat.add_zero] at hcell
    have hp : (0 : Int) < (r.length : Int) + 1 := by omega
    have hq : ¬ ((r.length : Int) + 1 = 0) := by omega
    rw [List.length_cons] at hbd
    clear ho hh
    go_wp2
    go_ret
    exact ⟨by rw [HO.out]; rfl, HB.out⟩
end Go.Proofs.Ytclhgnlhejohgaa.MemW
