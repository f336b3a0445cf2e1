/- PickStays: its walk. -/
import Derived.Test.YtclhgnlhejohgaaPickIs
import Derived.Test.YtclhgnlhejohgaaRow
set_option linter.unusedVariables false
set_option linter.unusedSimpArgs false
namespace Go.Proofs.Ytclhgnlhejohgaa.PickW
open Go.RowKit Go.Proofs.Ytclhgnlhejohgaa.Tc Go.Proofs.Ytclhgnlhejohgaa.PickP

theorem info9 : (Try.prog.info? 9).map (fun i => (i.zero, i.size, i.bytes)) = some (some (.string ByteArray.empty), 1, 16) := by kernel_rfl
/-- Texts in an array of the call's own. -/
def OwnS (w : World) (v : Value) (l : List ByteArray) : Prop := w.ownsRow 0 9 1 v l.length (l.map Value.string) ∧ ∀ s ∈ l, s.size ≤ maxLen
theorem OwnS.nil (w : World) : OwnS w (.slice none 0 0) [] := ⟨own_nil w 9 1, by simp⟩
theorem OwnS.form {w : World} {v : Value} {l : List ByteArray} (h : OwnS w v l) : ∃ A c, v = .slice A l.length c ∧ SliceIs kS w A l := by
  obtain ⟨A, c, rfl⟩ := own_form h.1
  refine ⟨A, c, rfl, ⟨own_le h.1, fun hn => ?_⟩⟩
  obtain ⟨g, c', hv, hf, hc⟩ := own_cells h.1 hn
  injection hv with hA
  subst hA
  refine ⟨g, 0, rfl, own_lt h.1 (g := g) rfl, fun i x hx => ⟨[.string x], ⟨rfl, h.2 x (List.mem_of_getElem? hx)⟩, fun j u hu => ?_⟩⟩
  have hj : j = 0 := by
    have := (List.getElem?_eq_some_iff.1 hu).1
    simp at this
    omega
  subst hj
  rw [cells9, Nat.mul_one, Nat.add_zero, Nat.zero_add]
  refine hc i u ?_
  rw [List.getElem?_map, hx]
  simpa using hu
theorem OwnS.below {w w' : World} {v : Value} {l : List ByteArray} (h : OwnS w v l) (hb : Below w.heap.size w w') : OwnS w' v l := ⟨own_kept h.1 (Tch.of_below (S := []) hb) (by simp), h.2⟩
/-- append(v, s): where it lies, and what it touches. -/
theorem OwnS.snoc {w : World} {v : Value} {l : List ByteArray} (h : OwnS w v l) (hl : l.length < 1000000) (s : ByteArray) (hs : s.size ≤ maxLen) :
    ∃ v' w', (Builtin.append_ #[26, 26] 26 #[v, .slice (some ⟨w.heap.size, 0, none⟩) 1 1]).run Try.prog (w.alloc (.cells #[.string s] 9)) = .ok v' w' ∧ OwnS w' v' (l ++ [s]) ∧ Tch v.ownBlock.toList w w' ∧
      (∀ g, v'.ownBlock = some g → v.ownBlock = some g ∨ w.heap.size ≤ g) := by
  obtain ⟨i0, hi, hz0, hz1, hz2⟩ := info_parts info9
  obtain ⟨v', w', hr, hown, ht, hloc, _⟩ := append_one (P := Try.prog) (ty := 26) Try.underlying26 hi hz0 hz1 hz2 rfl (by decide) h.1 [.string s] rfl (by simp [Value.oneCell']) (by unfold maxLen; omega) (by omega)
  refine ⟨v', w', hr, ⟨by simpa using hown, ?_⟩, ht, hloc⟩
  intro x hx
  rcases List.mem_append.1 hx with hx | hx
  · exact h.2 x hx
  · rw [List.mem_singleton.1 hx]; exact hs
/-- append(v, xs...). -/
theorem OwnS.many {w : World} {v : Value} {l xs : List ByteArray} (h : OwnS w v l) (hl : l.length < 1000000) (hm : xs.length < 1000000) {A : Option Addr} (c : Nat) (hS : SliceIs kS w A xs) :
    ∃ v' w', (Builtin.append_ #[26, 26] 26 #[v, .slice A xs.length c]).run Try.prog w = .ok v' w' ∧ OwnS w' v' (l ++ xs) ∧ Tch v.ownBlock.toList w w' ∧ (∀ g, v'.ownBlock = some g → v.ownBlock = some g ∨ w.heap.size ≤ g) := by
  obtain ⟨i0, hi, hz0, hz1, hz2⟩ := info_parts info9
  have hx : ∀ s ∈ xs, s.size ≤ maxLen := by
    intro s hs
    obtain ⟨k, hk, rfl⟩ := List.getElem_of_mem hs
    obtain ⟨b, off, _, _, hc⟩ := hS.at_ (by omega)
    obtain ⟨cs, ⟨_, hz⟩, _⟩ := hc k xs[k] (List.getElem?_eq_getElem hk)
    exact hz
  obtain ⟨v', w', hr, hown, ht, hloc⟩ := append_list (P := Try.prog) (ty := 26) Try.underlying26 hi hz0 hz1 hz2 rfl (by decide) h.1 A xs.length c (xs.map Value.string) (by simp) (fun hm => by
    obtain ⟨b, off, hA, _, hc⟩ := hS.at_ hm
    refine ⟨_, hA, fun j u hu => ?_⟩
    rw [List.getElem?_map] at hu
    cases hj : xs[j]? with
    | none => rw [hj] at hu; cases hu
    | some x =>
      rw [hj] at hu
      obtain ⟨cs, ⟨rfl, _⟩, hcell⟩ := hc j x hj
      have := hcell 0 _ rfl
      rw [cells9, Nat.mul_one, Nat.add_zero] at this
      rw [add_plain, this]
      simpa using hu) (by intro u hu; rw [List.mem_map] at hu; obtain ⟨x, _, rfl⟩ := hu; rfl) (by unfold maxLen; omega) (by omega)
  refine ⟨v', w', hr, ⟨by simpa using hown, ?_⟩, ht, hloc⟩
  intro x hx'
  rcases List.mem_append.1 hx' with hx' | hx'
  · exact h.2 x hx'
  · exact hx x hx'
/-- What is newer than a world. -/
def Newer (w : World) (v : Value) : Prop := ∀ g, v.ownBlock = some g → w.heap.size ≤ g
theorem Newer.nil (w : World) : Newer w (.slice none 0 0) := by intro g hg; simp [Value.ownBlock] at hg
theorem Newer.below {w w1 w2 : World} {v : Value} (hn : Newer w v) (hb : Below w.heap.size w w1) (ht : Tch v.ownBlock.toList w1 w2) : Below w.heap.size w w2 :=
  hb.trans (ht.below hb.size (by intro i hi; exact hn i (by simpa using hi)))
theorem Newer.step {w w1 : World} {v v' : Value} (hn : Newer w v) (hb : Below w.heap.size w w1) (h : ∀ g, v'.ownBlock = some g → v.ownBlock = some g ∨ w1.heap.size ≤ g) : Newer w v' := by
  intro g hg
  rcases h g hg with h | h
  · exact hn g h
  · exact Nat.le_trans hb.size h
theorem lit_zero (w : World) : OwnS (w.alloc (.cells #[] 9)) (.slice (some ⟨w.heap.size, 0, none⟩) 0 0) [] :=
  ⟨by simpa using World.ownsRow_lit (base := 0) (e := 9) (size := 1) w #[] 0 (Nat.zero_le _) (Nat.zero_le _) rfl, by simp⟩
def rest_ (l : List ByteArray) (one : ByteArray) : List ByteArray := l.filter fun s => !decide (s = one)
theorem rest_take (l : List ByteArray) (one : ByteArray) (k : Nat) (h : k < l.length) : rest_ (l.take (k + 1)) one = if l[k] = one then rest_ (l.take k) one else rest_ (l.take k) one ++ [l[k]] := by
  unfold rest_
  rw [List.take_succ_eq_append_getElem h, List.filter_append]
  by_cases e : l[k] = one <;> simp [e]
theorem rest_mem {l : List ByteArray} {one s : ByteArray} (h : s ∈ rest_ l one) : s ∈ l := (List.mem_filter.1 h).1
theorem rest_len (l : List ByteArray) (one : ByteArray) : (rest_ l one).length ≤ l.length := List.length_filter_le _ _
theorem small_of {l : List ByteArray} (h : ∀ s ∈ l, s.size ≤ 100) : Small l := by
  intro k hk
  have : l.getD k ByteArray.empty = l[k] := by simp [hk]
  rw [this]
  exact h _ (List.getElem_mem hk)
theorem small_mem {l : List ByteArray} (h : Small l) : ∀ s ∈ l, s.size ≤ 100 := by
  intro s hs
  obtain ⟨k, hk, rfl⟩ := List.getElem_of_mem hs
  have := h k hk
  simpa [hk] using this
theorem awake_below {w wr : World} (HB : Below w.heap.size w wr) : Calls Try.prog 17 #[] wr fun e w' => e = .returned (.bool true) ∧ Below w.heap.size w w' := awake_end HB
set_option maxRecDepth 100000 in
set_option maxHeartbeats 4000000 in
theorem stays_law (w : World) (A : Option Addr) (la ca : Nat) (here : List ByteArray) (key one : ByteArray)
    (hA : here.length = la ∧ SliceIs kS w A here) (hk0 : key.size ≤ 140737488351232) (ho0 : one.size ≤ 140737488351232) :
    Calls Try.prog 5 #[.slice A la ca, .string key, .string one] w fun e w' => e = .returned (.bool true) ∧ Below w.heap.size w w' := by
  obtain ⟨rfl, hA⟩ := hA
  have HA := Lib.hid hA
  have HFA := Lib.hid (few_any w A ca here hA)
  have HW := Lib.hid (awake_end (Below.refl w.heap.size w))
  clear hA
  go_enter Try.func5, Try.ntmps5
  go_wp2_with fail
  refine HFA.out.mono ?_
  rintro e w' ⟨⟨fa, rfl, hfa⟩, rfl⟩
  have HFEWA := Lib.hid hfa
  clear hfa HFA
  by_cases hc : fa = true ∧ here.length ≤ 18 ∧ key.size ≤ 100 ∧ one.size ≤ 100
  · obtain ⟨rfl, h18, hk, ho⟩ := hc
    obtain ⟨hal, hsm⟩ := HFEWA.out rfl
    have HAS : Hid (Small here) := hsm
    have H1 := Lib.hid (hash_any w A ca here key HA.out hk hsm)
    have hin : 0 < here.length → has here (hash (rank key) here) = true := fun h => (has_iff _ _).2 (hash_mem _ (by intro e; rw [e] at h; exact absurd h (by decide)))
    have hws : 0 < here.length → (hash (rank key) here).size ≤ 100 := fun h => small_mem hsm _ (hash_mem _ (by intro e; rw [e] at h; exact absurd h (by decide)))
    have hwith := hash_with (rank key) here one
    have hwout := fun h => @hash_without (rank key) here h one
    have HIN := Lib.hid hin
    have HWS := Lib.hid hws
    have HWITH := Lib.hid hwith
    have HWOUT := Lib.hid hwout
    clear hin hws hwith hwout hsm HFEWA HW hk0 ho0
    generalize hwas : hash (rank key) here = was at *
    clear hwas
    go_wp2_with fail
    refine H1.out.mono ?_
    rintro e w1 ⟨rfl, hb1⟩
    have HB1 := Lib.hid hb1
    have HA1 := Lib.hid (HA.out.below hb1)
    clear H1 hb1
    go_upto_region 4 with (fail)
    go_cut [41] (fun x wx => x = .bool false ∧ w1 = wx)
    case first =>
      by_cases hn : 0 < here.length
      · have HI := Lib.hid (in_any w1 A ca here HA1.out was)
        rw [HIN.out hn] at HI
        go_wp2_with fail
        refine HI.out.mono ?_
        rintro e w' ⟨rfl, rfl⟩
        go_wp2_with fail
        go_meet
        exact ⟨rfl, rfl⟩
      · go_wp2_with fail
        go_meet
        exact ⟨rfl, rfl⟩
    case rest =>
      obtain ⟨rfl, rfl⟩ := hcut
      obtain ⟨v1, w2, hr1, ho1, ht1, hl1⟩ := (lit_zero w1).many (by decide) (by omega) ca (HA1.out.below (alloc_below w1 (.cells #[] 9)))
      rw [List.nil_append] at ho1
      have hN1 : Newer w1 v1 := by
        intro g hg
        rcases hl1 g hg with h | h
        · have : w1.heap.size = g := by simpa [Value.ownBlock] using h
          omega
        · simp at h; omega
      have hB2 : Below w1.heap.size w1 w2 := (alloc_below w1 (.cells #[] 9)).trans (ht1.below (by simp) (by intro i hi; have : i = w1.heap.size := by simpa [Value.ownBlock] using hi
                                                                                                            omega))
      obtain ⟨v2, w3, hr2, ho2, ht2, hl2⟩ := ho1.snoc (by omega) one (by unfold maxLen; omega)
      have hN2 := hN1.step hB2 hl2
      have hB3 := hN1.below hB2 ht2
      obtain ⟨A2, c2, rfl, hS2⟩ := ho2.form
      have hsm : Small (here ++ [one]) := small_of (by
        intro s hs
        rcases List.mem_append.1 hs with hs | hs
        · exact small_mem HAS.out _ hs
        · rw [List.mem_singleton.1 hs]; exact ho)
      have H2 := Lib.hid (hash_any w3 A2 c2 (here ++ [one]) key hS2 hk hsm)
      have HB3 := Lib.hid (then_below HB1.out hB3)
      have HR1 := Lib.hid hr1
      have HR2 := Lib.hid hr2
      have hlen2 : (here ++ [one]).length = here.length + 1 := by simp
      rw [hlen2] at H2
      have HR2' := HR2.out
      rw [hlen2] at HR2'
      have HR3 := Lib.hid HR2'
      generalize hash (rank key) (here ++ [one]) = wth at *
      clear hr1 hr2 ho1 ht1 hl1 hN1 hB2 ho2 ht2 hl2 hN2 hB3 hS2 hsm hlen2 HR2 HR2'
      go_upto_region 6 with (fail)
      go_wp2_with (first | ((with_reducible show wpList _ _ _ _ _ (w1.alloc (.cells #[] 9))); at_builtin; refine wpList_append_eq rfl _ _ _ rfl rfl rfl HR1.out ?_) | ((with_reducible show wpList _ _ _ _ _ (w2.alloc (.cells #[.string one] 9))); at_builtin; refine wpList_append_eq rfl _ _ _ rfl rfl rfl HR3.out ?_))
      refine H2.out.mono ?_
      rintro e w4 ⟨rfl, hb4⟩
      have HB4 := Lib.hid (then_below HB3.out hb4)
      have HA4 := Lib.hid (HA.out.below HB4.out)
      clear hb4 HR1 HR3 H2
      go_upto_region 7 with (fail)
      go_cut [76] (fun x wx => x = .bool false ∧ Below w.heap.size w wx)
      case first =>
        obtain ⟨hor, hgt⟩ := HWITH.out
        have HGT := Lib.hid hgt
        clear hgt
        by_cases e1 : wth = was
        · clear hor
          have t1 := str_eq e1
          by_cases hn : 0 < here.length
          · clear e1
            go_wp2_with fail
            go_meet
            exact ⟨rfl, HB4.out⟩
          · clear e1
            go_wp2_with fail
            go_meet
            exact ⟨rfl, HB4.out⟩
        · have e2 : wth = one := hor.resolve_left e1
          have t1 := str_ne e1
          have t2 := str_eq e2
          have HE1 := Lib.hid e1
          have HE2 := Lib.hid e2
          clear e1 e2 hor
          by_cases hn : 0 < here.length
          · have hlt := HGT.out (by intro e; rw [e] at hn; exact absurd hn (by decide)) HE1.out
            have hsw := HWS.out hn
            have HK1 := Lib.hid (fun w' => rank_any key one w' (by omega))
            have HK2 := Lib.hid (fun w' => rank_any key was w' (by omega))
            generalize rank key one = r1 at hlt HK1
            generalize rank key was = r2 at hlt HK2
            have hnl : ¬ r1 ≤ r2 := by omega
            go_wp2_with fail
            refine (HK1.out _).mono ?_
            rintro e w5 ⟨rfl, hb⟩
            have HB5 := Lib.hid (then_below HB4.out hb)
            clear hb
            go_wp2_with fail
            refine (HK2.out _).mono ?_
            rintro e w6 ⟨rfl, hb⟩
            have HB6 := Lib.hid (then_below HB5.out hb)
            clear hb
            go_wp2_with fail
            go_meet
            exact ⟨by rw [decide_eq_false (by omega)], HB6.out⟩
          · go_wp2_with fail
            go_meet
            exact ⟨rfl, HB4.out⟩
      case rest =>
        obtain ⟨rfl, hB⟩ := hcut
        rename_i wx _
        go_wp2_with fail
        go_loopw [9, 10] (fun v x wr => ∃ k : Nat, k ≤ here.length ∧ x = .int .i64 k ∧ OwnS wr v (rest_ (here.take k) one) ∧ Newer w v ∧ Below w.heap.size w wr) (fun _ x _ => here.length - (intOf x).toNat)
        case atStart => exact ⟨0, by omega, rfl, OwnS.nil _, Newer.nil _, hB⟩
        case round =>
          obtain ⟨k, hk', rfl, hO, hN, hB'⟩ := hrel
          have HBR := Lib.hid hB'
          by_cases hlt : k < here.length
          · obtain ⟨b, off, rfl, c0, -⟩ := str_cell (HA.out.below hB') hlt
            have hrt := rest_take here one k hlt
            have hz := HAS.out k hlt
            have hge : here.getD k ByteArray.empty = here[k] := by simp [hlt]
            rw [hge] at c0 hz
            have hll : (rest_ (here.take k) one).length ≤ k := Nat.le_trans (rest_len _ _) (by simp; omega)
            have HRT := Lib.hid hrt
            have HO := Lib.hid hO
            have HN := Lib.hid hN
            clear hge hrt hO hN hB'
            generalize here[k] = z at c0 hz HRT
            by_cases e1 : z = one
            · have HR := Lib.hid (HRT.out.trans (if_pos e1))
              have t1 := str_eq e1
              clear e1
              go_wp2
              go_roundw
              case rel => exact ⟨k + 1, by omega, by go_num, by rw [HR.out]; exact HO.out, HN.out, HBR.out⟩
              case measure => simp [intOf]; omega
            · have HR := Lib.hid (HRT.out.trans (if_neg e1))
              have t1 := str_ne e1
              obtain ⟨v', w', hr, ho', ht, hl⟩ := HO.out.snoc (by omega) z (by unfold maxLen; omega)
              have HN' := Lib.hid (HN.out.step HBR.out hl)
              have HB' := Lib.hid (HN.out.below HBR.out ht)
              have HO' := Lib.hid ho'
              have HRUN := Lib.hid hr
              clear e1 hr ho' ht hl
              go_wp2_with (at_builtin; refine wpList_append_eq rfl _ _ _ rfl rfl rfl HRUN.out ?_)
              go_roundw
              case rel => exact ⟨k + 1, by omega, by go_num, by rw [HR.out]; exact HO'.out, HN'.out, HB'.out⟩
              case measure => simp [intOf]; omega
          · obtain rfl : k = here.length := by omega
            rw [List.take_length] at hO
            obtain ⟨A3, c3, rfl, hS3⟩ := hO.form
            have H3 := Lib.hid (hash_any _ A3 c3 _ key hS3 hk (small_of fun s hs => small_mem HAS.out s (rest_mem hs)))
            have HWE := Lib.hid (awake_end HBR.out)
            have hout : here.length ≠ 0 → was ≠ one → hash (rank key) (rest_ here one) = was := fun h1 h2 => HWOUT.out (by intro e; rw [e] at h1; exact h1 rfl) h2
            have HOUT := Lib.hid hout
            clear hO hS3 hN hB' hout
            by_cases e1 : was = one
            · have t1 := str_eq e1
              clear e1
              go_wp2_with fail
              refine HWE.out.mono ?_
              rintro e w3 ⟨rfl, hb⟩
              go_wp2_with fail
              go_ret
              exact ⟨rfl, hb⟩
            · have t1 := str_ne e1
              by_cases hn : here.length = 0
              · have hn' : ((here.length : Int) == 0) = true := by simp [hn]
                clear e1 hn
                go_wp2_with fail
                refine HWE.out.mono ?_
                rintro e w3 ⟨rfl, hb⟩
                go_wp2_with fail
                go_ret
                exact ⟨rfl, hb⟩
              · have hn' : ((here.length : Int) == 0) = false := by simp [hn]
                rw [HOUT.out hn e1] at H3
                clear e1 hn HWE
                go_wp2_with fail
                refine H3.out.mono ?_
                rintro e w3 ⟨rfl, hb⟩
                have HWE := Lib.hid (awake_end (then_below HBR.out hb))
                clear hb
                go_wp2_with fail
                refine HWE.out.mono ?_
                rintro e w3 ⟨rfl, hb⟩
                go_wp2_with fail
                go_ret
                exact ⟨rfl, hb⟩
  · have hcs : fa = false ∨ (fa = true ∧ ¬ here.length ≤ 18) ∨ (fa = true ∧ here.length ≤ 18 ∧ ¬ key.size ≤ 100) ∨ (fa = true ∧ here.length ≤ 18 ∧ key.size ≤ 100 ∧ ¬ one.size ≤ 100) := by
      cases fa with
      | false => exact .inl rfl
      | true =>
        by_cases h1 : here.length ≤ 18
        · by_cases h2 : key.size ≤ 100
          · exact .inr (.inr (.inr ⟨rfl, h1, h2, fun h3 => hc ⟨rfl, h1, h2, h3⟩⟩))
          · exact .inr (.inr (.inl ⟨rfl, h1, h2⟩))
        · exact .inr (.inl ⟨rfl, h1⟩)
    clear HFEWA hc
    rcases hcs with rfl | ⟨rfl, h1⟩ | ⟨rfl, h1, h2⟩ | ⟨rfl, h1, h2, h3⟩
    all_goals
      go_wp2_with fail
      refine HW.out.mono ?_
      rintro e w3 ⟨rfl, hb⟩
      go_wp2_with fail
      go_ret
      exact ⟨rfl, hb⟩
end Go.Proofs.Ytclhgnlhejohgaa.PickW
