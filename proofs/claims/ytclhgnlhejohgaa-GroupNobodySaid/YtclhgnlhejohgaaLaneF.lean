/- Which items are at the head: lane's and the reference's; lists of numbers. -/
import Derived.Test.YtclhgnlhejohgaaLaneE
import Derived.Test.YtclhgnlhejohgaaRow
set_option linter.unusedVariables false
set_option linter.unusedSimpArgs false
namespace Go.Proofs.Ytclhgnlhejohgaa.LaneW
open Go.RowKit Go.Proofs.Ytclhgnlhejohgaa.Tc Go.Proofs.Ytclhgnlhejohgaa.LaneP

theorem cellsInt : Try.prog.cellsOf 3 = 1 := by kernel_rfl
theorem info3 : (Try.prog.info? 3).map (fun i => (i.zero, i.size, i.bytes)) = some (some (.int .i64 0), 1, 8) := by kernel_rfl
theorem int_at {w : World} {A : Option Addr} {l : List Int} (h : SliceIs aI w A l) {k : Nat} (hk : k < l.length) :
    ∃ b off, A = some ⟨b, off, none⟩ ∧ w.cell? ⟨b, off + k, none⟩ = some (.int .i64 (l.getD k 0)) := by
  obtain ⟨b, off, hA, hb, hc⟩ := h.at_ (by omega)
  obtain ⟨cs, ⟨rfl, hs⟩, hcell⟩ := hc k l[k] (List.getElem?_eq_getElem hk)
  have := hcell 0 _ rfl
  rw [cellsInt, Nat.mul_one, Nat.add_zero] at this
  have e : l.getD k 0 = l[k] := by simp [hk]
  rw [e]
  exact ⟨b, off, hA, this⟩
/-- Small numbers in an array of the call's own. -/
def OwnI (w : World) (v : Value) (l : List Nat) : Prop := w.ownsRow 0 3 1 v l.length (l.map fun n : Nat => Value.int .i64 (n : Int)) ∧ ∀ n ∈ l, n ≤ 1000000
def ints (l : List Nat) : List Int := l.map fun n : Nat => (n : Int)
theorem OwnI.nil (w : World) : OwnI w (.slice none 0 0) [] := ⟨own_nil w 3 1, by simp⟩
theorem wf_small {n : Nat} (h : n ≤ 1000000) : (Lit.int .i64 (n : Int)).wf = true := by
  have h1 : IntKind.i64.min = -9223372036854775808 := rfl
  have h2 : IntKind.i64.max = 9223372036854775807 := rfl
  simp [Lit.wf, h1, h2]
  omega
theorem OwnI.form {w : World} {v : Value} {l : List Nat} (h : OwnI w v l) : ∃ A c, v = .slice A l.length c ∧ SliceIs aI w A (ints l) := by
  obtain ⟨A, c, rfl⟩ := own_form h.1
  refine ⟨A, c, rfl, ⟨by simpa [ints] using own_le h.1, fun hn => ?_⟩⟩
  rw [ints, List.length_map] at hn
  obtain ⟨g, c', hv, hf, hc⟩ := own_cells h.1 hn
  injection hv with hA
  subst hA
  refine ⟨g, 0, rfl, own_lt h.1 (g := g) rfl, fun i x hx => ?_⟩
  rw [ints, List.getElem?_map, Option.map_eq_some_iff] at hx
  obtain ⟨n, hn', rfl⟩ := hx
  refine ⟨[.int .i64 n], ⟨rfl, wf_small (h.2 n (List.mem_of_getElem? hn'))⟩, fun j u hu => ?_⟩
  have hj : j = 0 := by
    have := (List.getElem?_eq_some_iff.1 hu).1
    simp at this
    omega
  subst hj
  rw [cellsInt, Nat.mul_one, Nat.add_zero, Nat.zero_add]
  refine hc i u ?_
  rw [List.getElem?_map, hn']
  simpa using hu
theorem OwnI.below {w w' : World} {v : Value} {l : List Nat} (h : OwnI w v l) (hb : Below w.heap.size w w') : OwnI w' v l := ⟨own_kept h.1 (Tch.of_below (S := []) hb) (by simp), h.2⟩
theorem OwnI.kept {S : List Nat} {w w' : World} {v : Value} {l : List Nat} (h : OwnI w v l) (ht : Tch S w w') (hs : ∀ g, v.ownBlock = some g → g ∉ S) : OwnI w' v l := ⟨own_kept h.1 ht hs, h.2⟩
theorem OwnI.snoc {w : World} {v : Value} {l : List Nat} (h : OwnI w v l) (hl : l.length < 1000000) (n : Nat) (hn : n ≤ 1000000) :
    ∃ v' w', (Builtin.append_ #[27, 27] 27 #[v, .slice (some ⟨w.heap.size, 0, none⟩) 1 1]).run Try.prog (w.alloc (.cells #[.int .i64 n] 3)) = .ok v' w' ∧ OwnI w' v' (l ++ [n]) ∧ Tch v.ownBlock.toList w w' ∧
      (∀ g, v'.ownBlock = some g → v.ownBlock = some g ∨ w.heap.size ≤ g) := by
  obtain ⟨i0, hi, hz0, hz1, hz2⟩ := info_parts info3
  obtain ⟨v', w', hr, hown, ht, hloc, _⟩ := append_one (P := Try.prog) (ty := 27) Try.underlying27 hi hz0 hz1 hz2 rfl (by decide) h.1 [.int .i64 n] rfl (by simp [Value.oneCell']) (by unfold maxLen; omega) (by omega)
  refine ⟨v', w', hr, ⟨by simpa using hown, ?_⟩, ht, hloc⟩
  intro x hx
  rcases List.mem_append.1 hx with hx | hx
  · exact h.2 x hx
  · rw [List.mem_singleton.1 hx]; exact hn
def Newer (w : World) (v : Value) : Prop := ∀ g, v.ownBlock = some g → w.heap.size ≤ g
theorem Newer.nil (w : World) : Newer w (.slice none 0 0) := by intro g hg; simp [Value.ownBlock] at hg
theorem Newer.below {w w1 w2 : World} {v : Value} (hn : Newer w v) (hb : Below w.heap.size w w1) (ht : Tch v.ownBlock.toList w1 w2) : Below w.heap.size w w2 :=
  hb.trans (ht.below hb.size (by intro i hi; exact hn i (by simpa using hi)))
theorem Newer.step {w w1 : World} {v v' : Value} (hn : Newer w v) (hb : Below w.heap.size w w1) (h : ∀ g, v'.ownBlock = some g → v.ownBlock = some g ∨ w1.heap.size ≤ g) : Newer w v' := by
  intro g hg
  rcases h g hg with h | h
  · exact hn g h
  · exact Nat.le_trans hb.size h

/-! ### lists of numbers, compared -/
def eqI (a b : List Int) : Bool := decide (a = b)
theorem eqI_len {a b : List Int} (h : a.length ≠ b.length) : eqI a b = false := by unfold eqI; exact decide_eq_false (fun e => h (by rw [e]))
theorem eqI_ne {a b : List Int} {k : Nat} (h : a.getD k 0 ≠ b.getD k 0) : eqI a b = false := by unfold eqI; exact decide_eq_false (fun e => h (by rw [e]))
theorem eqI_all {a b : List Int} (hl : a.length = b.length) (h : ∀ k, k < a.length → a.getD k 0 = b.getD k 0) : eqI a b = true := by
  unfold eqI
  refine decide_eq_true (List.ext_getElem hl fun i h1 h2 => ?_)
  have := h i h1
  simpa [h1, h2] using this
set_option maxRecDepth 100000 in
set_option maxHeartbeats 2000000 in
theorem same_ints (w : World) (A B : Option Addr) (ca cb : Nat) (a b : List Int) (hA : SliceIs aI w A a) (hB : SliceIs aI w B b) :
    Calls Try.prog 35 #[.slice A a.length ca, .slice B b.length cb] w fun e w' => e = .returned (.bool (eqI a b)) ∧ Dr w w' := by
  have hla := hA.len
  have hlb := hB.len
  unfold maxLen at hla hlb
  have HA := Lib.hid hA
  have HB := Lib.hid hB
  clear hA hB
  by_cases hl : a.length = b.length
  · have HALL := Lib.hid (eqI_all hl)
    have HL := Lib.hid hl
    have e1 : ((a.length : Int) == (b.length : Int)) = true := by simp [hl]
    clear hl
    go_enter Try.func35, Try.ntmps35
    go_wp2
    go_loopw [5] (fun x wr => ∃ k : Nat, k ≤ a.length ∧ x = .int .i64 k ∧ Dr w wr ∧ ∀ j, j < k → a.getD j 0 = b.getD j 0) (fun x _ => a.length - (intOf x).toNat)
    case atStart => exact ⟨0, by omega, rfl, dr_refl w, by intro j h; omega⟩
    case round =>
      obtain ⟨k, hk, rfl, hD, hn⟩ := hrel
      have HN := Lib.hid hn
      have HD := Lib.hid hD
      clear hn
      by_cases hlt : k < a.length
      · have hlt2 : k < b.length := by have := HL.out; omega
        obtain ⟨b1, o1, rfl, c1⟩ := int_at (HA.out.below hD.below) hlt
        obtain ⟨b2, o2, rfl, c2⟩ := int_at (HB.out.below hD.below) hlt2
        have d1 := fun n : Wd (Dr wr) => n.cellD c1
        have d2 := fun n : Wd (Dr wr) => n.cellD c2
        clear c1 c2 hD
        generalize hx : a.getD k 0 = x at d1
        generalize hy : b.getD k 0 = y at d2
        have HX := Lib.hid hx
        have HY := Lib.hid hy
        clear hx hy
        by_cases e : x = y
        · have t1 : (x == y) = true := by simp [e]
          have HN1 : Hid (∀ j, j < k + 1 → a.getD j 0 = b.getD j 0) := by
            intro j hj
            by_cases e2 : j = k
            · subst e2; rw [HX.out, HY.out, e]
            · exact HN.out j (by omega)
          clear e
          go_wp2
          refine wp_region_cls (Dr wr) (dr_drew wr) (by kernel_rfl) (by kernel_rfl) ?_
          repeat (go_big_quiet_step (fail))
          refine wpQuiet_nil ?_
          rintro _ ⟨⟨wq, hq⟩, rfl⟩
          have HDQ := Lib.hid (Dr.trans HD.out hq)
          clear hq d1 d2
          go_wp2
          go_roundw
          case rel => exact ⟨k + 1, by omega, by go_num, HDQ.out, HN1.out⟩
          case measure => simp [intOf]; omega
        · have t1 : (x == y) = false := by simp [e]
          have HE := Lib.hid (eqI_ne (a := a) (b := b) (k := k) (by rw [HX.out, HY.out]; exact e))
          clear e
          go_wp2
          refine wp_region_cls (Dr wr) (dr_drew wr) (by kernel_rfl) (by kernel_rfl) ?_
          repeat (go_big_quiet_step (fail))
          refine wpQuiet_nil ?_
          rintro _ ⟨⟨wq, hq⟩, rfl⟩
          have HDQ := Lib.hid (Dr.trans HD.out hq)
          clear hq d1 d2
          go_wp2
          go_ret
          exact ⟨by rw [HE.out]; rfl, HDQ.out⟩
      · obtain rfl : k = a.length := by omega
        have HE := Lib.hid (HALL.out HN.out)
        clear hD
        go_wp2
        go_ret
        exact ⟨by rw [HE.out]; rfl, HD.out⟩
  · have HE := Lib.hid (eqI_len hl)
    have e1 : ((a.length : Int) == (b.length : Int)) = false := by simp; omega
    clear hl
    go_enter Try.func35, Try.ntmps35
    go_wp2
    go_ret
    exact ⟨by rw [HE.out]; rfl, dr_refl w⟩
theorem waits_succ (l : List LaneP.It) (t : ByteArray) {j : Nat} {y : LaneP.It} (h : l[j]? = some y) : waits (l.take (j + 1)) t = (waits (l.take j) t || (decide (y.2 = No) && decide (y.1 = t))) := by
  have hlt := (List.getElem?_eq_some_iff.1 h).1
  have he := (List.getElem?_eq_some_iff.1 h).2
  unfold waits
  rw [List.take_succ_eq_append_getElem hlt, List.any_append]
  simp [he]
theorem head_succ (l : List LaneP.It) {k : Nat} {x : LaneP.It} (h : l[k]? = some x) : headN l (k + 1) = if (decide (x.2 = No) && !waits (l.take k) x.1) = true then headN l k ++ [k] else headN l k := by
  rw [headN.eq_2, h]
  simp only
  by_cases h1 : x.2 = No <;> cases h2 : waits (l.take k) x.1 <;> simp [h1]
theorem headN_len (l : List LaneP.It) (k : Nat) : (headN l k).length ≤ k := by
  induction k with
  | zero => simp [headN]
  | succ k ih =>
    rw [headN.eq_2]
    cases l[k]? with
    | none => simp only; omega
    | some x => simp only; split <;> (try simp) <;> omega
/-- Is an item at the head, as far as j items ahead of it tell? -/
def flag (l : List LaneP.It) (x : LaneP.It) (j : Nat) : Bool := decide (x.2 = No) && !waits (l.take j) x.1
theorem flag_succ (l : List LaneP.It) (x : LaneP.It) {j : Nat} {y : LaneP.It} (h : l[j]? = some y) : flag l x (j + 1) = (flag l x j && (!decide (y.2 = No) || !decide (y.1 = x.1))) := by
  unfold flag
  rw [waits_succ l _ h]
  cases decide (x.2 = No) <;> cases waits (l.take j) x.1 <;> cases decide (y.2 = No) <;> cases decide (y.1 = x.1) <;> rfl
set_option maxRecDepth 100000 in
set_option maxHeartbeats 2000000 in
theorem rhead_any (w : World) (A : Option Addr) (cap : Nat) (l : List Tc.It) (hS : SliceIs kItem w A l) (hl : l.length ≤ 20) :
    Calls Try.prog 37 #[.slice A l.length cap] w fun e w' => (∃ v, e = .returned v ∧ OwnI w' v (head (pr l))) ∧ Below w.heap.size w w' := by
  have HS := Lib.hid hS
  clear hS
  have hpost : ∀ (v : Value) (w' : World), OwnI w' v (headN (pr l) l.length) → Below w.heap.size w w' → ((∃ v', Ending.returned v = .returned v' ∧ OwnI w' v' (head (pr l))) ∧ Below w.heap.size w w') := by
    intro v w' h hb
    refine ⟨⟨v, rfl, ?_⟩, hb⟩
    unfold head
    rw [pr_len]; exact h
  have HPOST := Lib.hid hpost
  clear hpost
  generalize hP : (fun (e : Ending) (w' : World) => (∃ v, e = .returned v ∧ OwnI w' v (head (pr l))) ∧ Below w.heap.size w w') = PP
  have HPP : Hid (∀ (v : Value) (w' : World), OwnI w' v (headN (pr l) l.length) → Below w.heap.size w w' → PP (.returned v) w') := by
    intro v w' h hb
    rw [← hP]; exact HPOST.out v w' h hb
  clear hP HPOST
  go_enter Try.func37, Try.ntmps37
  go_wp2
  go_loopw [3, 4] (fun v x wr => ∃ k : Nat, k ≤ l.length ∧ x = .int .i64 k ∧ Below w.heap.size w wr ∧ OwnI wr v (headN (pr l) k) ∧ Newer w v) (fun _ x _ => l.length - (intOf x).toNat)
  case atStart => exact ⟨0, by omega, rfl, Below.refl _ _, OwnI.nil _, Newer.nil _⟩
  case round =>
    obtain ⟨k, hk, rfl, hB, hO, hN⟩ := hrel
    have HB := Lib.hid hB
    have HO := Lib.hid hO
    have HN := Lib.hid hN
    clear hO hN
    by_cases hlt : k < l.length
    · obtain ⟨x, hx⟩ : ∃ x, l[k]? = some x := ⟨_, List.getElem?_eq_getElem hlt⟩
      have HX := Lib.hid hx
      have hp : (pr l)[k]? = some (x.msg.topic, x.at_) := by rw [pr_get, hx]; rfl
      have HP := Lib.hid hp
      obtain ⟨b, off, rfl, hb, hcx, -, -, -⟩ := item_cells (HS.out.below hB) hx
      have c9 := hcx.c9
      have hf0 : x.at_.toList.isEmpty = flag (pr l) (x.msg.topic, x.at_) 0 := by rw [wts_emp]; simp [flag, waits]
      have HF0 := Lib.hid hf0
      clear hx hp hB hb hcx hf0
      obtain ⟨wo, hwo⟩ : ∃ wo : World, wo = wr := ⟨_, rfl⟩
      subst hwo
      go_upto_block 2 with (fail)
      go_cut [5, 6] (fun f z wx => f = .bool (flag (pr l) (x.msg.topic, x.at_) k) ∧ Dr wo wx)
      case first =>
        go_wp2
        go_loopw [5, 6] (fun f z wr => ∃ j : Nat, j ≤ k ∧ z = .int .i64 j ∧ f = .bool (flag (pr l) (x.msg.topic, x.at_) j) ∧ Dr wo wr) (fun _ z _ => k - (intOf z).toNat)
        case atStart => exact ⟨0, by omega, rfl, by rw [HF0.out], dr_refl _⟩
        case round =>
          obtain ⟨j, hj, rfl, rfl, hD⟩ := hrel
          have HD := Lib.hid hD
          by_cases hlt2 : j < k
          · obtain ⟨y, hy⟩ : ∃ y, l[j]? = some y := ⟨_, List.getElem?_eq_getElem (by omega)⟩
            have hBr : Below w.heap.size w wr := then_below HB.out hD.below
            obtain ⟨b', off', hAA, hb', hcy, -, -, -⟩ := item_cells (HS.out.below hBr) hy
            obtain ⟨b'', off'', hAA2, hb'', hcx, -, -, -⟩ := item_cells (HS.out.below hBr) HX.out
            injection hAA with hAA
            injection hAA with hA1 hA2
            subst hA1
            subst hA2
            injection hAA2 with hAA
            injection hAA with hA1 hA2
            subst hA1
            subst hA2
            have hpy : (pr l)[j]? = some (y.msg.topic, y.at_) := by rw [pr_get, hy]; rfl
            have HFS := Lib.hid (flag_succ (pr l) (x.msg.topic, x.at_) hpy)
            have d0 := fun n : Wd (Dr wr) => n.cellD hcx.c0
            have d2 := fun n : Wd (Dr wr) => n.cellD hcy.c0
            have d3 := fun n : Wd (Dr wr) => n.cellD hcy.c9
            have hj1 : (j : Int) < l.length := by omega
            have hk1 : (k : Int) < l.length := by omega
            clear hy hpy hBr hb' hb'' hcx hcy hD c9
            generalize flag (pr l) (x.msg.topic, x.at_) j = fj at *
            cases fj with
            | false =>
              rw [Bool.false_and] at HFS
              go_wp2
              refine wp_region_cls (Dr wr) (dr_drew wr) (by kernel_rfl) (by kernel_rfl) ?_
              repeat (go_big_quiet_step (fail))
              refine wpQuiet_nil ?_
              rintro _ ⟨⟨wq, hq⟩, rfl⟩
              have HDQ := Lib.hid (Dr.trans HD.out hq)
              clear hq d0 d2 d3
              go_wp2
              go_roundw
              case rel => exact ⟨j + 1, by omega, by go_num, by rw [HFS.out], HDQ.out⟩
              case measure => simp [intOf]; omega
            | true =>
              rw [Bool.true_and] at HFS
              by_cases hyw : y.at_ = ByteArray.empty
              · have t2 : y.at_.toList.isEmpty = true := by rw [wts_emp]; simp [hyw]
                by_cases ht : y.msg.topic = x.msg.topic
                · have t1 := str_eq ht
                  have HFE := Lib.hid (show flag (pr l) (x.msg.topic, x.at_) (j + 1) = false by rw [HFS.out]; simp [hyw, ht])
                  clear hyw ht
                  go_wp2
                  refine wp_region_cls (Dr wr) (dr_drew wr) (by kernel_rfl) (by kernel_rfl) ?_
                  repeat (go_big_quiet_step (fail))
                  refine wpQuiet_nil ?_
                  rintro _ ⟨⟨wq, hq⟩, rfl⟩
                  have HDQ := Lib.hid (Dr.trans HD.out hq)
                  clear hq d0 d2 d3
                  go_wp2
                  go_roundw
                  case rel => exact ⟨j + 1, by omega, by go_num, by rw [HFE.out], HDQ.out⟩
                  case measure => simp [intOf]; omega
                · have t1 := str_ne ht
                  have HFE := Lib.hid (show flag (pr l) (x.msg.topic, x.at_) (j + 1) = true by rw [HFS.out]; simp [ht])
                  clear hyw ht
                  go_wp2
                  refine wp_region_cls (Dr wr) (dr_drew wr) (by kernel_rfl) (by kernel_rfl) ?_
                  repeat (go_big_quiet_step (fail))
                  refine wpQuiet_nil ?_
                  rintro _ ⟨⟨wq, hq⟩, rfl⟩
                  have HDQ := Lib.hid (Dr.trans HD.out hq)
                  clear hq d0 d2 d3
                  go_wp2
                  go_roundw
                  case rel => exact ⟨j + 1, by omega, by go_num, by rw [HFE.out], HDQ.out⟩
                  case measure => simp [intOf]; omega
              · have t2 := (ne_empty hyw).1
                have HFE := Lib.hid (show flag (pr l) (x.msg.topic, x.at_) (j + 1) = true by rw [HFS.out]; simp [hyw])
                clear hyw
                go_wp2
                refine wp_region_cls (Dr wr) (dr_drew wr) (by kernel_rfl) (by kernel_rfl) ?_
                repeat (go_big_quiet_step (fail))
                refine wpQuiet_nil ?_
                rintro _ ⟨⟨wq, hq⟩, rfl⟩
                have HDQ := Lib.hid (Dr.trans HD.out hq)
                clear hq d0 d2 d3
                go_wp2
                go_roundw
                case rel => exact ⟨j + 1, by omega, by go_num, by rw [HFE.out], HDQ.out⟩
                case measure => simp [intOf]; omega
          · obtain rfl : j = k := by omega
            clear hD
            go_wp2
            go_meet
            exact ⟨rfl, HD.out⟩
      case rest =>
        obtain ⟨rfl, hD⟩ := hcut
        rename_i wc _
        have HHS := Lib.hid (head_succ (pr l) HP.out)
        have HB2 := Lib.hid (then_below HB.out hD.below)
        have HO2 := Lib.hid (HO.out.below hD.below)
        have hll := headN_len (pr l) k
        have hfl : flag (pr l) (x.msg.topic, x.at_) k = (decide (x.at_ = No) && !waits ((pr l).take k) x.msg.topic) := rfl
        have HFL := Lib.hid hfl
        clear c9 hD hfl
        cases hfv : flag (pr l) (x.msg.topic, x.at_) k with
        | false =>
          have HR := Lib.hid (show headN (pr l) (k + 1) = headN (pr l) k by rw [HHS.out]; exact if_neg (by rw [← HFL.out, hfv]; simp))
          clear hfv HHS
          go_wp2
          go_roundw
          case rel => exact ⟨k + 1, by omega, by go_num, HB2.out, by rw [HR.out]; exact HO2.out, HN.out⟩
          case measure => simp [intOf]; omega
        | true =>
          have HR := Lib.hid (show headN (pr l) (k + 1) = headN (pr l) k ++ [k] by rw [HHS.out]; exact if_pos (by rw [← HFL.out, hfv]))
          obtain ⟨v', w', hr, ho', ht, hl'⟩ := HO2.out.snoc (by omega) k (by omega)
          have HN' := Lib.hid (HN.out.step HB2.out hl')
          have HB' := Lib.hid (HN.out.below HB2.out ht)
          have HO' := Lib.hid ho'
          have HRUN := Lib.hid hr
          clear hfv HHS hr ho' ht hl'
          go_wp2_with (at_builtin; refine wpList_append_eq rfl _ _ _ rfl rfl rfl HRUN.out ?_)
          go_roundw
          case rel => exact ⟨k + 1, by omega, by go_num, HB'.out, by rw [HR.out]; exact HO'.out, HN'.out⟩
          case measure => simp [intOf]; omega
    · obtain rfl : k = l.length := by omega
      have HE := Lib.hid (HPP.out _ _ HO.out HB.out)
      clear hB
      go_wp2
      exact HE.out
/-- The map holds the topics of those that wait. -/
def Seen (l : List LaneP.It) (L : List (ByteArray × Value)) (k : Nat) : Prop := ∀ t, getL L t = if waits (l.take k) t = true then some (.bool true) else none
theorem Seen.zero (l : List LaneP.It) : Seen l [] 0 := fun t => by simp [waits, getL]
theorem Seen.skip {l : List LaneP.It} {L : List (ByteArray × Value)} {k : Nat} {x : LaneP.It} (h : Seen l L k) (hx : l[k]? = some x) (hw : x.2 ≠ No ∨ waits (l.take k) x.1 = true) : Seen l L (k + 1) := by
  intro t
  rw [waits_succ l t hx, h t]
  rcases hw with hw | hw
  · simp [hw]
  · by_cases e : x.1 = t
    · subst e; simp [hw]
    · simp [e]
theorem Seen.put {l : List LaneP.It} {L : List (ByteArray × Value)} {k : Nat} {x : LaneP.It} (h : Seen l L k) (hx : l[k]? = some x) (hw : x.2 = No) : Seen l (putL L x.1 (.bool true)) (k + 1) := by
  intro t
  rw [waits_succ l t hx, getL_put, h t]
  by_cases e : t = x.1
  · subst e; simp [hw]
  · have : ¬ x.1 = t := fun h => e h.symm
    simp [e, this]
theorem zero4 (w : World) : (zeroValue 4).run Try.prog w = .ok (.bool false) w := by kernel_rfl
theorem OwnI.map_ne {w : World} {v : Value} {l : List Nat} (h : OwnI w v l) {mb : Nat} {L : List (ByteArray × Value)} (hm : MapIs TS w mb L) : ∀ g, v.ownBlock = some g → g ≠ mb := by
  obtain ⟨es, k, hb⟩ := hm.block
  exact own_map_ne h.1 hb
set_option maxRecDepth 100000 in
set_option maxHeartbeats 2000000 in
theorem head_any (w : World) (A : Option Addr) (cap : Nat) (l : List Tc.It) (hS : SliceIs kItem w A l) (hl : l.length ≤ 20) :
    Calls Try.prog 36 #[.slice A l.length cap] w fun e w' => (∃ v, e = .returned v ∧ OwnI w' v (head (pr l))) ∧ Below w.heap.size w w' := by
  have HS := Lib.hid hS
  clear hS
  have hpost : ∀ (v : Value) (w' : World), OwnI w' v (headN (pr l) l.length) → Below w.heap.size w w' → ((∃ v', Ending.returned v = .returned v' ∧ OwnI w' v' (head (pr l))) ∧ Below w.heap.size w w') := by
    intro v w' h hb
    refine ⟨⟨v, rfl, ?_⟩, hb⟩
    unfold head
    rw [pr_len]; exact h
  have HPOST := Lib.hid hpost
  clear hpost
  generalize hP : (fun (e : Ending) (w' : World) => (∃ v, e = .returned v ∧ OwnI w' v (head (pr l))) ∧ Below w.heap.size w w') = PP
  have HPP := Lib.hid (show ∀ (v : Value) (w' : World), OwnI w' v (headN (pr l) l.length) → Below w.heap.size w w' → PP (.returned v) w' by
    intro v w' h hb
    rw [← hP]; exact HPOST.out v w' h hb)
  clear hP HPOST
  have hmm := @run_makeMap Try.prog
  have HM0 := Lib.hid (MapIs.made TS w)
  have HB0 := Lib.hid (alloc_below w (.map #[] 0))
  go_enter Try.func36, Try.ntmps36
  go_wp2
  clear hmm
  go_loopw [4, 10] (fun v x wr => ∃ (k : Nat) (L : List (ByteArray × Value)), k ≤ l.length ∧ x = .int .i64 k ∧ Below w.heap.size w wr ∧ MapIs TS wr w.heap.size L ∧ L.length ≤ k ∧ Seen (pr l) L k ∧ OwnI wr v (headN (pr l) k) ∧ Newer w v) (fun _ x _ => l.length - (intOf x).toNat)
  case atStart => exact ⟨0, [], by omega, rfl, HB0.out, HM0.out, Nat.le_refl _, Seen.zero _, OwnI.nil _, Newer.nil _⟩
  case round =>
    obtain ⟨k, L, hk, rfl, hB, hM, hLk, hsn, hO, hN⟩ := hrel
    have HSN := Lib.hid hsn
    have HB := Lib.hid hB
    have HM := Lib.hid hM
    have HO := Lib.hid hO
    have HN := Lib.hid hN
    clear hsn hO hN
    by_cases hlt : k < l.length
    · obtain ⟨x, hx⟩ : ∃ x, l[k]? = some x := ⟨_, List.getElem?_eq_getElem hlt⟩
      have hp : (pr l)[k]? = some (x.msg.topic, x.at_) := by rw [pr_get, hx]; rfl
      have HP := Lib.hid hp
      have HHS := Lib.hid (head_succ (pr l) hp)
      obtain ⟨b, off, rfl, hb, ⟨c0, c1, c2, c3, c4, c5, c6, c7, c8, c9, c10, c11⟩, hwf, -, -⟩ := item_cells (HS.out.below hB) hx
      have hok : TS.ok x.msg.topic := hwf.1.1
      obtain ⟨w2, hw2⟩ : ∃ w2, w2 = wr.alloc (.cells x.vals.toArray 45) := ⟨_, rfl⟩
      have hcp : CpAt w2 wr.heap.size x := by rw [hw2]; exact CpAt.new wr x
      have hB2 : Below w.heap.size w w2 := by rw [hw2]; exact copy_below hB (.cells x.vals.toArray 45)
      have hM2 : MapIs TS w2 w.heap.size L := by rw [hw2]; exact map_kept hM (alloc_below _ _)
      have hO2 := HO.out.below (w' := w2) (by rw [hw2]; exact alloc_below _ _)
      have HCP := Lib.hid hcp
      have HB2 := Lib.hid hB2
      have HM2 := Lib.hid hM2
      have HO2 := Lib.hid hO2
      have HW2 := Lib.hid hw2
      have HKX := Lib.hid (fun w' => key_any x.msg w')
      have HWX := Lib.hid (fun w' => waits_any x w')
      have HOK := Lib.hid hok
      unfold It.vals at HW2
      unfold It.val at HWX
      unfold Mg.val at HKX
      clear hx hp hB hM hb hwf hok hcp hB2 hM2 hw2 hO2
      go_upto_region 6 with (fail)
      rw [← HW2.out]
      obtain ⟨f0, f1, f2, f3, f4, f5, f6, f7, f8, f9, f10, f11⟩ := HCP.out
      clear c0 c1 c2 c3 c4 c5 c6 c7 c8 c9 c10 c11 HW2 HB HM HO
      go_wp2_with fail
      refine (HWX.out _).mono ?_
      rintro e w3 ⟨rfl, hb⟩
      have HCP3 := Lib.hid (HCP.out.below hb)
      have HB3 := Lib.hid (then_below HB2.out hb)
      have HM3 := Lib.hid (map_kept HM2.out hb)
      have HO3 := Lib.hid (HO2.out.below hb)
      clear hb f0 f1 f2 f3 f4 f5 f6 f7 f8 f9 f10 f11 HCP HB2 HM2 HO2
      cases hw : wts x with
      | false =>
        have hxw : x.at_ ≠ ByteArray.empty := by have := hw; unfold wts at this; simpa using this
        have HR := Lib.hid (show headN (pr l) (k + 1) = headN (pr l) k by rw [HHS.out]; exact if_neg (by simp [hxw]))
        have HW1 := Lib.hid (HSN.out.skip HP.out (.inl hxw))
        clear hw hxw
        go_wp2_with fail
        go_roundw
        case rel => exact ⟨k + 1, L, by omega, by go_num, HB3.out, HM3.out, by omega, HW1.out, by rw [HR.out]; exact HO3.out, HN.out⟩
        case measure => simp [intOf]; omega
      | true =>
        have hxw : x.at_ = ByteArray.empty := by have := hw; unfold wts at this; simpa using this
        have HXW := Lib.hid hxw
        clear hw hxw
        obtain ⟨f0, f1, f2, f3, f4, f5, f6, f7, f8, f9, f10, f11⟩ := HCP3.out
        go_wp2_with fail
        refine (HKX.out _).mono ?_
        rintro e w4 ⟨rfl, hb⟩
        have HCP4 := Lib.hid (HCP3.out.below hb)
        have HB4 := Lib.hid (then_below HB3.out hb)
        have HM4 := Lib.hid (map_kept HM3.out hb)
        have HO4 := Lib.hid (HO3.out.below hb)
        clear hb f0 f1 f2 f3 f4 f5 f6 f7 f8 f9 f10 f11 HCP3 HB3 HM3 HO3
        have hlk : (Instr.lookup 102 (.map (some w.heap.size)) (.string x.msg.topic) false).run Try.prog w4 = .ok ((getL L x.msg.topic).getD (.bool false)) w4 :=
          HM4.out.look Try.underlying102 (zero4 w4) x.msg.topic HOK.out
        rw [HSN.out] at hlk
        cases hs : waits ((pr l).take k) x.msg.topic with
        | true =>
          rw [hs] at hlk
          simp only [if_true, Option.getD_some] at hlk
          have HR := Lib.hid (show headN (pr l) (k + 1) = headN (pr l) k by rw [HHS.out]; exact if_neg (by simp [hs]))
          have HW1 := Lib.hid (HSN.out.skip HP.out (.inr hs))
          clear hs
          go_wp2_with fail
          go_roundw
          case rel => exact ⟨k + 1, L, by omega, by go_num, HB4.out, HM4.out, by omega, HW1.out, by rw [HR.out]; exact HO4.out, HN.out⟩
          case measure => simp [intOf]; omega
        | false =>
          rw [hs] at hlk
          simp only [Bool.false_eq_true, if_false, Option.getD_none] at hlk
          have HR := Lib.hid (show headN (pr l) (k + 1) = headN (pr l) k ++ [k] by rw [HHS.out]; exact if_pos (by simp [hs, HXW.out]))
          have HW1 := Lib.hid (HSN.out.put HP.out HXW.out)
          have hput : (putL L x.msg.topic (.bool true)).length ≤ k + 1 := by rw [length_put]; split <;> omega
          have hll := headN_len (pr l) k
          clear hs
          obtain ⟨f0, f1, f2, f3, f4, f5, f6, f7, f8, f9, f10, f11⟩ := HCP4.out
          go_wp2_with fail
          refine (HKX.out _).mono ?_
          rintro e w5 ⟨rfl, hb⟩
          have HB5 := Lib.hid (then_below HB4.out hb)
          have hM5 := map_kept HM4.out hb
          have hO5 := HO4.out.below hb
          obtain ⟨w6, hr6, hM6, hg6, -⟩ := hM5.store Try.underlying102 (by unfold maxLen; omega) x.msg.topic HOK.out (.bool true)
          have hr6' : (Instr.mapUpdate 102 (.map (some w.heap.size)) (.string x.msg.topic) (.bool true)).run Try.prog w5 = .ok () w6 := hr6
          have hB6 := below_new HB5.out (Nat.le_refl _) hg6
          have hO6 := hO5.kept (Tch.grownBy hg6) (fun g hg => by have := hO5.map_ne hM5 g hg; simpa using this)
          obtain ⟨v', w7, hr7, ho7, ht7, hl7⟩ := hO6.snoc (by omega) k (by omega)
          have hM7 : MapIs TS w7 w.heap.size (putL L x.msg.topic (.bool true)) := hM6.of_block (ht7.block _ hM6.lt (by
            intro hm
            have := hO6.map_ne hM6 w.heap.size (by simpa using hm)
            exact this rfl))
          have HM7 := Lib.hid hM7
          have HN7 := Lib.hid (HN.out.step hB6 hl7)
          have HB7 := Lib.hid (HN.out.below hB6 ht7)
          have HO7 := Lib.hid ho7
          have HRUN := Lib.hid hr7
          clear f0 f1 f2 f3 f4 f5 f6 f7 f8 f9 f10 f11 hb hM5 hO5 hr6 hM6 hg6 hB6 hO6 hr7 ho7 ht7 hl7 hM7 hlk
          go_wp2_with (at_builtin; refine wpList_append_eq rfl _ _ _ rfl rfl rfl HRUN.out ?_)
          go_roundw
          case rel => exact ⟨k + 1, _, by omega, by go_num, HB7.out, HM7.out, hput, HW1.out, by rw [HR.out]; exact HO7.out, HN7.out⟩
          case measure => simp [intOf]; omega
    · obtain rfl : k = l.length := by omega
      have HE := Lib.hid (HPP.out _ _ HO.out HB.out)
      clear hB hM
      go_wp2
      exact HE.out
end Go.Proofs.Ytclhgnlhejohgaa.LaneW
