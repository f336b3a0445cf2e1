/- MemberOwner. -/
import Derived.Test.YtclhgnlhejohgaaMemG
import Derived.Deep.RegionHeld3
set_option linter.unusedVariables false
set_option linter.unusedSimpArgs false
namespace Go.Proofs.Ytclhgnlhejohgaa.MemW
open Go.RowKit Go.Proofs.Ytclhgnlhejohgaa.Tc Go.Proofs.Ytclhgnlhejohgaa.MemP
open Go.Proofs.Ytclhgnlhejohgaa.PickW (OwnS Newer kS kI cells9 str_cell strs_new alloc_below)
attribute [local go_sem ↓] Go.wp_at_zero Go.wp_at_succ

set_option maxRecDepth 100000 in
set_option maxHeartbeats 8000000 in
theorem owner_law (w : World) (A : Option Addr) (la ca : Nat) (l : List Act_) (hA : l.length = la ∧ SliceIs kAct w A l) :
    Calls Try.prog 11 #[.slice A la ca] w fun e w' => e = .returned (.bool true) ∧ Below w.heap.size w w' := by
  obtain ⟨rfl, hA⟩ := hA
  have HA := Lib.hid hA
  have HFA := Lib.hid (few_any w A ca l hA)
  have HW := Lib.hid (awake_end (Below.refl w.heap.size w))
  have HM := Lib.hid (St.made w w (Below.refl _ _))
  clear hA
  go_enter Try.func11, Try.ntmps11
  go_wp2_with fail
  refine HFA.out.mono ?_
  rintro e w1 ⟨⟨fa, rfl, hfa⟩, rfl⟩
  have HFEW := Lib.hid hfa
  clear hfa HFA
  cases fa with
  | false =>
    go_wp2_with fail
    refine HW.out.mono ?_
    rintro e w2 ⟨rfl, hb⟩
    have HB := Lib.hid hb
    clear hb
    go_wp2_with fail
    go_ret
    exact ⟨rfl, HB.out⟩
  | true =>
    obtain ⟨h60, hsz⟩ := HFEW.out rfl
    have HSZ := Lib.hid hsz
    clear hsz HFEW HW
    go_wp2_with fail
    go_loopw [4] (fun x wr => ∃ (k : Nat) (v : Value) (ms : List Mem) (gen : Int), k ≤ l.length ∧ x = .int .i64 k ∧ 0 ≤ gen ∧ gen ≤ k ∧ ms.length ≤ k ∧ MemP.Inv ms gen ∧ St w wr w.heap.size v ms gen) (fun x _ => l.length - (intOf x).toNat)
    case atStart => exact ⟨0, _, _, 0, by omega, rfl, by omega, by omega, by simp, MemP.Inv.nil, HM.out⟩
    case round =>
      obtain ⟨k, v, ms, gen, hk, rfl, hg0, hg1, hms, hinv, hst⟩ := hrel
      have HST := Lib.hid hst
      have HINV := Lib.hid hinv
      clear hinv
      by_cases hlt : k < l.length
      · obtain ⟨x, hx⟩ : ∃ x, l[k]? = some x := ⟨_, List.getElem?_eq_getElem hlt⟩
        obtain ⟨b, off, hAA, hb, -, -, -, hq⟩ := act_cells (HA.out.below hst.bel) hx
        have hcs : x.client.size ≤ 100 := by
          have := HSZ.out k hlt
          rw [List.getElem?_eq_getElem hlt] at hx
          injection hx with hx
          rw [hx] at this
          exact this
        have HX := Lib.hid hx
        have HQ := Lib.hid hq
        have HI2 := Lib.hid (act_inv HINV.out x.kind x.client x.qos)
        have HG2 := Lib.hid (act_gen ms gen x.kind x.client x.qos)
        have HL2 := Lib.hid (act_len ms gen x.kind x.client x.qos)
        have HO := Lib.hid (owner_any wr _ v ms gen hst.at_ (by omega))
        clear hx hb hq hst
        subst hAA
        generalize owner ms = was at *
        go_wp2_with fail
        refine HO.out.mono ?_
        rintro e w2 ⟨rfl, hb⟩
        have HST2 := Lib.hid (HST.out.below hb)
        clear hb HO HST
        have HG := Lib.hid (gen_any _ _ _ _ _ HST2.out.at_)
        go_wp2_with fail
        refine HG.out.mono ?_
        rintro e w3 ⟨rfl, rfl⟩
        clear HG
        have HGET := Lib.hid (get_any _ _ _ _ _ HST2.out.at_ was)
        generalize (MemP.get ms was).getD zero = gx at *
        generalize (MemP.get ms was).isSome = gis at *
        simp only [val] at HGET
        go_wp2_with fail
        refine HGET.out.mono ?_
        rintro e w4 ⟨rfl, hb⟩
        have HST3 := Lib.hid (HST2.out.below hb)
        have HST4 := Lib.hid (HST3.out.below (alloc_below w4 (.cells #[.string gx.client, .int .i64 gx.since, .int .i64 gx.qos, .bool gx.online] 66)))
        have hxs : w4.heap.size < (w4.alloc (.cells #[.string gx.client, .int .i64 gx.since, .int .i64 gx.qos, .bool gx.online] 66)).heap.size := by simp
        have hxc := heap_alloc_new w4 (.cells #[.string gx.client, .int .i64 gx.since, .int .i64 gx.qos, .bool gx.online] 66)
        clear hb HGET HST2
        obtain ⟨c0, c1, c2⟩ : (w4.alloc (.cells #[.string gx.client, .int .i64 gx.since, .int .i64 gx.qos, .bool gx.online] 66)).cell? ⟨b, off + k * 3, none⟩ = some (.int .i64 x.kind) ∧ (w4.alloc (.cells #[.string gx.client, .int .i64 gx.since, .int .i64 gx.qos, .bool gx.online] 66)).cell? ⟨b, off + k * 3 + 1, none⟩ = some (.string x.client) ∧
            (w4.alloc (.cells #[.string gx.client, .int .i64 gx.since, .int .i64 gx.qos, .bool gx.online] 66)).cell? ⟨b, off + k * 3 + 2, none⟩ = some (.int .i64 x.qos) := by
          obtain ⟨b', off', hAA, -, d0, d1, d2, -⟩ := act_cells (HA.out.below HST4.out.bel) HX.out
          injection hAA with hAA
          injection hAA with h1 h2
          subst h1
          subst h2
          exact ⟨d0, d1, d2⟩
        have HD := Lib.hid (do_any _ _ v ms gen HST4.out.at_ (by omega) hg0 (by omega) x.kind x.client (by unfold maxLen; omega) x.qos HQ.out)
        generalize act ms gen x.kind x.client x.qos = r at *
        obtain ⟨rb, ms2, gen2⟩ := r
        go_wp2_with fail
        refine HD.out.mono ?_
        intro e w5 hp
        have hxb : w5.heap[w4.heap.size]? = some (.cells #[.string gx.client, .int .i64 gx.since, .int .i64 gx.qos, .bool gx.online] 66 (0, 0)) := by
          obtain ⟨v', -, -, ht⟩ := hp
          refine (ht.tch.block _ hxs ?_).trans hxc
          intro hm
          rcases List.mem_cons.1 hm with e | e
          · have := lt_of_block HST3.out.at_.st; omega
          · have := own_lt HST3.out.at_.row.own (g := w4.heap.size) (by simpa using e); omega
        obtain ⟨v2, rfl, hst2⟩ := HST4.out.step hp
        have HST5 := Lib.hid hst2
        have hg2 : gen2 = gen + (if rb = true then 1 else 0) := HG2.out
        have hl2 : ms2.length ≤ ms.length + 1 := HL2.out
        have hi2 : MemP.Inv ms2 gen2 := HI2.out
        have HINV2 := Lib.hid hi2
        clear hp hst2 HD HG2 HL2 HST4 HINV HI2 hi2 HX HQ c0 c1 c2 hxc hxs HST3
        have hgl : ¬ (gen2 < gen) := by rw [hg2]; split <;> omega
        have hgh : ¬ (gen + 1 < gen2) := by rw [hg2]; split <;> omega
        have hg20 : 0 ≤ gen2 := by omega
        have hg2k : gen2 ≤ k + 1 := by omega
        clear hg2
        have HGET := Lib.hid (get_any _ _ _ _ _ HST5.out.at_ was)
        have HFACT := Lib.hid (show (MemP.get ms2 was).isSome = true → ((MemP.get ms2 was).getD zero).online = true → old ms2 was ((MemP.get ms2 was).getD zero).since = false → owner ms2 = was by
          intro h1 h2 h3
          cases hq : MemP.get ms2 was with
          | none => rw [hq] at h1; cases h1
          | some y => rw [hq] at h2 h3; exact owner_stays HINV2.out hq h2 h3)
        generalize (MemP.get ms2 was).getD zero = gy at *
        generalize (MemP.get ms2 was).isSome = gs at *
        simp only [val] at HGET
        go_wp2_with fail
        refine HGET.out.mono ?_
        rintro e w6 ⟨rfl, hb⟩
        have HST6 := Lib.hid ((HST5.out.below hb).below (alloc_below w6 (.cells #[.string gy.client, .int .i64 gy.since, .int .i64 gy.qos, .bool gy.online] 66)))
        have hx6 := (((alloc_below w6 (.cells #[.string gy.client, .int .i64 gy.since, .int .i64 gy.qos, .bool gy.online] 66)).mono hb.size).block w4.heap.size (lt_of_block hxb)).trans ((hb.block w4.heap.size (lt_of_block hxb)).trans hxb)
        have hy6 := heap_alloc_new w6 (.cells #[.string gy.client, .int .i64 gy.since, .int .i64 gy.qos, .bool gy.online] 66)
        clear hb HGET HST5 hxb
        have HOW := Lib.hid (owner_any _ _ _ _ _ HST6.out.at_ (by omega))
        go_wp2_with fail
        refine HOW.out.mono ?_
        rintro e w7 ⟨rfl, hb⟩
        have HST7 := Lib.hid (HST6.out.below hb)
        have hx7 := (hb.block _ (lt_of_block hx6)).trans hx6
        have hy7 := (hb.block _ (lt_of_block hy6)).trans hy6
        clear hb HOW HST6 hx6 hy6
        have HG := Lib.hid (gen_any _ _ _ _ _ HST7.out.at_)
        go_wp2_with fail
        refine HG.out.mono ?_
        rintro e w8 ⟨rfl, rfl⟩
        go_wp2_with fail
        refine HG.out.mono ?_
        rintro e w8 ⟨rfl, rfl⟩
        have c0 : w7.cell? ⟨w4.heap.size, 1, none⟩ = some (.int .i64 gx.since) := cell_of hx7 rfl
        have c1 : w7.cell? ⟨w6.heap.size, 1, none⟩ = some (.int .i64 gy.since) := cell_of hy7 rfl
        have c2 : w7.cell? ⟨w6.heap.size, 3, none⟩ = some (.bool gy.online) := cell_of hy7 rfl
        have HOLD := Lib.hid (older_any _ _ _ _ _ HST7.out.at_ (by omega) was gy.since)
        clear hx7 hy7 HG
        go_upto_region 14 with (fail)
        go_cut [90] (fun x wx => x = .bool false ∧ Below w7.heap.size w7 wx)
        case first =>
          cases gis with
          | false =>
            go_wp2_with fail
            go_meet
            exact ⟨rfl, Below.refl _ _⟩
          | true =>
            cases gs with
            | false =>
              go_wp2_with fail
              go_meet
              exact ⟨rfl, Below.refl _ _⟩
            | true =>
              cases hon : gy.online with
              | false =>
                rw [hon] at c2
                go_wp2_with fail
                go_meet
                exact ⟨rfl, Below.refl _ _⟩
              | true =>
                rw [hon] at c2
                by_cases hsc : gx.since = gy.since
                · cases hold : old ms2 was gy.since with
                  | true =>
                    rw [hold] at HOLD
                    go_wp2_with fail
                    refine HOLD.out.mono ?_
                    rintro e w8 ⟨rfl, hb⟩
                    have HB := Lib.hid hb
                    clear hb
                    go_wp2_with fail
                    go_meet
                    exact ⟨rfl, HB.out⟩
                  | false =>
                    rw [hold] at HOLD
                    have t1 := str_eq (HFACT.out rfl hon hold)
                    go_wp2_with fail
                    refine HOLD.out.mono ?_
                    rintro e w8 ⟨rfl, hb⟩
                    have HB := Lib.hid hb
                    clear hb
                    go_wp2_with fail
                    go_meet
                    exact ⟨rfl, HB.out⟩
                · go_wp2_with fail
                  go_meet
                  exact ⟨rfl, Below.refl _ _⟩
        case rest =>
          obtain ⟨rfl, hb⟩ := hcut
          have HST8 := Lib.hid (HST7.out.below hb)
          clear hb HST7 HFACT HOLD c0 c1 c2
          go_wp2_with fail
          go_loopw [12] (fun z wr => ∃ kk : Nat, kk ≤ ms2.length ∧ z = .int .i64 kk ∧ St w wr w.heap.size v2 ms2 gen2) (fun z _ => ms2.length - (intOf z).toNat)
          case atStart => exact ⟨0, by omega, rfl, HST8.out⟩
          case round =>
            obtain ⟨kk, hkk, rfl, hst⟩ := hrel
            have HST := Lib.hid hst
            clear hst
            have HALL := Lib.hid (all_any _ _ _ _ _ HST.out.at_ (by omega))
            go_wp2_with fail
            refine HALL.out.mono ?_
            rintro e w9 ⟨⟨va, rfl, hr⟩, hb⟩
            obtain ⟨A9, cp9, rfl, -⟩ := hr.form
            have HST9 := Lib.hid (HST.out.below hb)
            clear hr hb HALL HST
            by_cases hlk : kk < ms2.length
            · obtain ⟨z, hz⟩ : ∃ z, ms2[kk]? = some z := ⟨_, List.getElem?_eq_getElem hlk⟩
              have HZ := Lib.hid hz
              clear hz
              have HALL := Lib.hid (all_any _ _ _ _ _ HST9.out.at_ (by omega))
              go_wp2_with fail
              refine HALL.out.mono ?_
              rintro e w10 ⟨⟨va, rfl, hr⟩, hb⟩
              obtain ⟨A10, cp10, rfl, hS⟩ := hr.form
              obtain ⟨b', off', rfl, -, z0, z1, z2, z3, -⟩ := mem_cells hS HZ.out
              have HST10 := Lib.hid (HST9.out.below hb)
              have HST11 := Lib.hid (HST10.out.below (alloc_below w10 (.cells #[.string z.client, .int .i64 z.since, .int .i64 z.qos, .bool z.online] 66)))
              have hz11 := heap_alloc_new w10 (.cells #[.string z.client, .int .i64 z.since, .int .i64 z.qos, .bool z.online] 66)
              have HGET := Lib.hid (get_any _ _ _ _ _ HST11.out.at_ (owner ms2))
              clear hr hb HALL HST9 HST10 hS
              have HF2 := Lib.hid (show z.online = true → (MemP.get ms2 (owner ms2)).isSome = true ∧ ((MemP.get ms2 (owner ms2)).getD zero).online = true ∧ ((MemP.get ms2 (owner ms2)).getD zero).since ≤ z.since by
                intro h
                obtain ⟨o, h1, h2, h3⟩ := owner_eldest HINV2.out HZ.out h
                rw [h1]
                exact ⟨rfl, h2, h3⟩)
              generalize (MemP.get ms2 (owner ms2)).getD zero = go at *
              generalize (MemP.get ms2 (owner ms2)).isSome = gk at *
              simp only [val] at HGET
              go_wp2_with fail
              refine HGET.out.mono ?_
              rintro e w12 ⟨rfl, hb⟩
              have HST13 := Lib.hid ((HST11.out.below hb).below (alloc_below w12 (.cells #[.string go.client, .int .i64 go.since, .int .i64 go.qos, .bool go.online] 66)))
              have hz13 := (((alloc_below w12 (.cells #[.string go.client, .int .i64 go.since, .int .i64 go.qos, .bool go.online] 66)).mono hb.size).block w10.heap.size (lt_of_block hz11)).trans ((hb.block w10.heap.size (lt_of_block hz11)).trans hz11)
              have ho13 := heap_alloc_new w12 (.cells #[.string go.client, .int .i64 go.since, .int .i64 go.qos, .bool go.online] 66)
              have d1 := cell_of hz13 (o := 1) (v := .int .i64 z.since) rfl
              have d3 := cell_of hz13 (o := 3) (v := .bool z.online) rfl
              have o1 := cell_of ho13 (o := 1) (v := .int .i64 go.since) rfl
              have o3 := cell_of ho13 (o := 3) (v := .bool go.online) rfl
              have HALL3 := Lib.hid (all_any _ _ _ _ _ (HST13.out.below (Dr.below (dr_drew _))).at_ (by omega))
              clear hb hz11 hz13 ho13 HGET HST11 z0 z1 z2 z3 HST8
              cases hon : z.online with
              | false =>
                rw [hon] at d3
                clear HF2 hon
                rcases kk with _ | p
                · skip
                  have e0 := fun n : Wd (Dr (w12.alloc (.cells #[.string go.client, .int .i64 go.since, .int .i64 go.qos, .bool go.online] 66))) => n.cellD d3
                  have e1 := fun n : Wd (Dr (w12.alloc (.cells #[.string go.client, .int .i64 go.since, .int .i64 go.qos, .bool go.online] 66))) => n.cellD d1
                  have e2 := fun n : Wd (Dr (w12.alloc (.cells #[.string go.client, .int .i64 go.since, .int .i64 go.qos, .bool go.online] 66))) => n.cellD o3
                  have e3 := fun n : Wd (Dr (w12.alloc (.cells #[.string go.client, .int .i64 go.since, .int .i64 go.qos, .bool go.online] 66))) => n.cellD o1
                  clear d1 d3 o1 o3 HALL3
                  go_upto_region 21 with (fail)
                  refine wp_region_cls (Dr (w12.alloc (.cells #[.string go.client, .int .i64 go.since, .int .i64 go.qos, .bool go.online] 66))) (dr_drew _) (by kernel_rfl) (by kernel_rfl) ?_
                  repeat (go_big_quiet_step (fail))
                  refine wpQuiet_nil ?_
                  rintro _ ⟨⟨wq, hq⟩, rfl⟩
                  have HST14 := Lib.hid (HST13.out.below (Dr.below hq))
                  clear hq e0 e1 e2 e3
                  go_wp2
                  go_roundw
                  case rel => exact ⟨0 + 1, by omega, by go_num, HST14.out⟩
                  case measure => simp [intOf]; omega
                · skip
                  obtain ⟨p', hp'⟩ : ∃ p', ms2[p]? = some p' := ⟨_, List.getElem?_eq_getElem (by omega)⟩
                  have hps : ¬ (z.since ≤ p'.since) := by have := HINV2.out.sort p (p + 1) p' z hp' HZ.out (by omega); omega
                  have HC := Lib.hid (show Calls Try.prog 50 #[.pointer (some ⟨w.heap.size, 0, none⟩)] (w12.alloc (.cells #[.string go.client, .int .i64 go.since, .int .i64 go.qos, .bool go.online] 66)).drew fun e w' => (∃ b2 off2 cp2, e = .returned (.slice (some ⟨b2, off2, none⟩) ms2.length cp2) ∧ w'.cell? ⟨b2, off2 + p * 4 + 1, none⟩ = some (.int .i64 p'.since)) ∧
                      (w'.cell? ⟨w10.heap.size, 3, none⟩ = some (.bool false) ∧ w'.cell? ⟨w10.heap.size, 1, none⟩ = some (.int .i64 z.since) ∧ w'.cell? ⟨w12.heap.size, 3, none⟩ = some (.bool go.online) ∧ w'.cell? ⟨w12.heap.size, 1, none⟩ = some (.int .i64 go.since)) ∧ Below (w12.alloc (.cells #[.string go.client, .int .i64 go.since, .int .i64 go.qos, .bool go.online] 66)).drew.heap.size (w12.alloc (.cells #[.string go.client, .int .i64 go.since, .int .i64 go.qos, .bool go.online] 66)).drew w' by
                    refine HALL3.out.mono ?_
                    rintro e w' ⟨⟨va, rfl, hr⟩, hb⟩
                    obtain ⟨A3, cp3, rfl, hS3⟩ := hr.form
                    obtain ⟨b3, off3, rfl, -, -, y1, -, -, -⟩ := mem_cells hS3 hp'
                    have kept : ∀ {a : Addr} {v : Value}, (w12.alloc (.cells #[.string go.client, .int .i64 go.since, .int .i64 go.qos, .bool go.online] 66)).cell? a = some v → w'.cell? a = some v := fun h => (Same.of_below hb).cell h
                    exact ⟨⟨b3, off3, cp3, rfl, y1⟩, ⟨kept d3, kept d1, kept o3, kept o1⟩, hb⟩)
                  have hdec2 : decide (z.since ≤ p'.since) = false := decide_eq_false hps
                  have hwr : IntKind.i64.wrap (p : Int) = p := wrap_small (by omega)
                  have hp0 : (0 : Int) ≤ (p : Int) := by omega
                  have hp1 : (p : Int) < ms2.length := by omega
                  clear hp' HALL3
                  go_upto_region 21 with (fail)
                  refine wp_region_held_drew (S := fun w' => w'.cell? ⟨w10.heap.size, 3, none⟩ = some (.bool false) ∧ w'.cell? ⟨w10.heap.size, 1, none⟩ = some (.int .i64 z.since) ∧ w'.cell? ⟨w12.heap.size, 3, none⟩ = some (.bool go.online) ∧ w'.cell? ⟨w12.heap.size, 1, none⟩ = some (.int .i64 go.since)) (by kernel_rfl) ⟨d3, d1, o3, o1⟩ (fun hHeld => ?_)
                  refine wpAnyH_take (i := 0) (v := ?v0) rfl (by kernel_rfl) (by kernel_rfl) (by kernel_rfl) (fun _ _ _ h => h) (Or.inl ⟨by rfl, ?hy0⟩) (by assumption) ?rest0
                  case hy0 => (intro w hSw; (try dsimp only at hSw); go_simp <;> with_reducible rfl)
                  simp only [Act.put, List.getElem_toArray, List.getElem_cons_zero, List.getElem_cons_succ, List.setIfInBounds_toArray, List.set_cons_zero, List.set_cons_succ]
                  refine wpAnyH_take (i := 1) (v := ?v1) rfl (by kernel_rfl) (by kernel_rfl) (by kernel_rfl) (fun _ _ _ h => h) (Or.inl ⟨by rfl, ?hy1⟩) (by assumption) ?rest1
                  case hy1 => (intro w hSw; (try dsimp only at hSw); go_simp <;> with_reducible rfl)
                  simp only [Act.put, List.getElem_toArray, List.getElem_cons_zero, List.getElem_cons_succ, List.setIfInBounds_toArray, List.set_cons_zero, List.set_cons_succ]
                  refine wpAnyH_take (i := 2) (v := ?v2) rfl (by kernel_rfl) (by kernel_rfl) (by kernel_rfl) (fun _ _ _ h => h) (Or.inl ⟨by rfl, ?hy2⟩) (by assumption) ?rest2
                  case hy2 => (intro w hSw; (try dsimp only at hSw); go_simp <;> with_reducible rfl)
                  simp only [Act.put, List.getElem_toArray, List.getElem_cons_zero, List.getElem_cons_succ, List.setIfInBounds_toArray, List.set_cons_zero, List.set_cons_succ]
                  refine wpAnyH_take (i := 3) rfl (by kernel_rfl) (by kernel_rfl) (by kernel_rfl) (fun _ _ _ h => h) (Or.inr ⟨by rfl, rfl⟩) (by assumption) ?_
                  simp only [Act.put, List.getElem_toArray, List.getElem_cons_zero, List.getElem_cons_succ, List.setIfInBounds_toArray, List.set_cons_zero, List.set_cons_succ]
                  refine wpAnyH_take (i := 4) rfl (by kernel_rfl) (by kernel_rfl) (by kernel_rfl) (fun _ _ _ h => h) (Or.inr ⟨by rfl, rfl⟩) (by assumption) ?_
                  simp only [Act.put, List.getElem_toArray, List.getElem_cons_zero, List.getElem_cons_succ, List.setIfInBounds_toArray, List.set_cons_zero, List.set_cons_succ]
                  refine wpAnyH_take (i := 5) rfl (by kernel_rfl) (by kernel_rfl) (by kernel_rfl) (fun _ _ _ h => h) (Or.inr ⟨by rfl, rfl⟩) (by assumption) ?_
                  simp only [Act.put, List.getElem_toArray, List.getElem_cons_zero, List.getElem_cons_succ, List.setIfInBounds_toArray, List.set_cons_zero, List.set_cons_succ]
                  refine wpAnyH_take (i := 6) rfl (by kernel_rfl) (by kernel_rfl) (by kernel_rfl) (fun _ _ _ h => h) (Or.inr ⟨by rfl, rfl⟩) (by assumption) ?_
                  simp only [Act.put, List.getElem_toArray, List.getElem_cons_zero, List.getElem_cons_succ, List.setIfInBounds_toArray, List.set_cons_zero, List.set_cons_succ]
                  refine wpAnyH_take (i := 7) rfl (by kernel_rfl) (by kernel_rfl) (by kernel_rfl) (fun _ _ _ h => h) (Or.inr ⟨by rfl, rfl⟩) (by assumption) ?_
                  simp only [Act.put, List.getElem_toArray, List.getElem_cons_zero, List.getElem_cons_succ, List.setIfInBounds_toArray, List.set_cons_zero, List.set_cons_succ]
                  refine wpAnyH_take (i := 8) rfl (by kernel_rfl) (by kernel_rfl) (by kernel_rfl) (fun _ _ _ h => h) (Or.inr ⟨by rfl, rfl⟩) (by assumption) ?_
                  simp only [Act.put, List.getElem_toArray, List.getElem_cons_zero, List.getElem_cons_succ, List.setIfInBounds_toArray, List.set_cons_zero, List.set_cons_succ]
                  refine wpAnyH_take (i := 9) rfl (by kernel_rfl) (by kernel_rfl) (by kernel_rfl) (fun _ _ _ h => h) (Or.inr ⟨by rfl, rfl⟩) (by assumption) ?_
                  simp only [Act.put, List.getElem_toArray, List.getElem_cons_zero, List.getElem_cons_succ, List.setIfInBounds_toArray, List.set_cons_zero, List.set_cons_succ]
                  refine wpAnyH_take (i := 10) rfl (by kernel_rfl) (by kernel_rfl) (by kernel_rfl) (fun _ _ _ h => h) (Or.inr ⟨by rfl, rfl⟩) (by assumption) ?_
                  simp only [Act.put, List.getElem_toArray, List.getElem_cons_zero, List.getElem_cons_succ, List.setIfInBounds_toArray, List.set_cons_zero, List.set_cons_succ]
                  refine wpAnyH_take (i := 11) rfl (by kernel_rfl) (by kernel_rfl) (by kernel_rfl) (fun _ _ _ h => h) (Or.inr ⟨by rfl, rfl⟩) (by assumption) ?_
                  simp only [Act.put, List.getElem_toArray, List.getElem_cons_zero, List.getElem_cons_succ, List.setIfInBounds_toArray, List.set_cons_zero, List.set_cons_succ]
                  refine wpAnyH_take (i := 12) rfl (by kernel_rfl) (by kernel_rfl) (by kernel_rfl) (fun _ _ _ h => h) (Or.inr ⟨by rfl, rfl⟩) (by assumption) ?_
                  simp only [Act.put, List.getElem_toArray, List.getElem_cons_zero, List.getElem_cons_succ, List.setIfInBounds_toArray, List.set_cons_zero, List.set_cons_succ]
                  refine wpAnyH_take (i := 13) rfl (by kernel_rfl) (by kernel_rfl) (by kernel_rfl) (fun _ _ _ h => h) (Or.inr ⟨by rfl, rfl⟩) (by assumption) ?_
                  simp only [Act.put, List.getElem_toArray, List.getElem_cons_zero, List.getElem_cons_succ, List.setIfInBounds_toArray, List.set_cons_zero, List.set_cons_succ]
                  refine wpAnyH_take (i := 14) rfl (by kernel_rfl) (by kernel_rfl) (by kernel_rfl) (fun _ _ _ h => h) (Or.inr ⟨by rfl, rfl⟩) (by assumption) ?_
                  simp only [Act.put, List.getElem_toArray, List.getElem_cons_zero, List.getElem_cons_succ, List.setIfInBounds_toArray, List.set_cons_zero, List.set_cons_succ]
                  refine wpAnyH_take (i := 15) rfl (by kernel_rfl) (by kernel_rfl) (by kernel_rfl) (fun _ _ _ h => h) (Or.inr ⟨by rfl, rfl⟩) (by assumption) ?_
                  simp only [Act.put, List.getElem_toArray, List.getElem_cons_zero, List.getElem_cons_succ, List.setIfInBounds_toArray, List.set_cons_zero, List.set_cons_succ]
                  refine wpAnyH_take (i := 16) rfl (by kernel_rfl) (by kernel_rfl) (by kernel_rfl) (fun _ _ _ h => h) (Or.inr ⟨by rfl, rfl⟩) (by assumption) ?_
                  simp only [Act.put, List.getElem_toArray, List.getElem_cons_zero, List.getElem_cons_succ, List.setIfInBounds_toArray, List.set_cons_zero, List.set_cons_succ]
                  refine wpAnyH_take (i := 17) (v := ?v17) rfl (by kernel_rfl) (by kernel_rfl) (by kernel_rfl) (fun _ _ _ h => h) (Or.inl ⟨by rfl, ?hy17⟩) (by assumption) ?rest17
                  case hy17 => (intro w hSw; (try dsimp only at hSw); go_simp <;> with_reducible rfl)
                  simp only [Act.put, List.getElem_toArray, List.getElem_cons_zero, List.getElem_cons_succ, List.setIfInBounds_toArray, List.set_cons_zero, List.set_cons_succ]
                  refine wpAnyH_take (i := 18) (v := ?v18) rfl (by kernel_rfl) (by kernel_rfl) (by kernel_rfl) (fun _ _ _ h => h) (Or.inl ⟨by rfl, ?hy18⟩) (by assumption) ?rest18
                  case hy18 => (intro w hSw; (try dsimp only at hSw); go_simp <;> with_reducible rfl)
                  simp only [Act.put, List.getElem_toArray, List.getElem_cons_zero, List.getElem_cons_succ, List.setIfInBounds_toArray, List.set_cons_zero, List.set_cons_succ]
                  refine wpAnyH_take (i := 19) (v := ?v19) rfl (by kernel_rfl) (by kernel_rfl) (by kernel_rfl) (fun _ _ _ h => h) (Or.inl ⟨by rfl, ?hy19⟩) (by assumption) ?rest19
                  case hy19 => (intro w hSw; (try dsimp only at hSw); go_simp <;> with_reducible rfl)
                  simp only [Act.put, List.getElem_toArray, List.getElem_cons_zero, List.getElem_cons_succ, List.setIfInBounds_toArray, List.set_cons_zero, List.set_cons_succ]
                  refine wpAnyH_take (i := 20) (v := ?v20) rfl (by kernel_rfl) (by kernel_rfl) (by kernel_rfl) (fun _ _ _ h => h) (Or.inl ⟨by rfl, ?hy20⟩) (by assumption) ?rest20
                  case hy20 => (intro w hSw; (try dsimp only at hSw); go_simp <;> with_reducible rfl)
                  simp only [Act.put, List.getElem_toArray, List.getElem_cons_zero, List.getElem_cons_succ, List.setIfInBounds_toArray, List.set_cons_zero, List.set_cons_succ]
                  refine wpAnyH_take (i := 21) (v := ?v21) rfl (by kernel_rfl) (by kernel_rfl) (by kernel_rfl) (fun _ _ _ h => h) (Or.inl ⟨by rfl, ?hy21⟩) (by assumption) ?rest21
                  case hy21 => (intro w hSw; (try dsimp only at hSw); go_simp <;> with_reducible rfl)
                  simp only [Act.put, List.getElem_toArray, List.getElem_cons_zero, List.getElem_cons_succ, List.setIfInBounds_toArray, List.set_cons_zero, List.set_cons_succ]
                  refine wpAnyH_take (i := 22) (v := ?v22) rfl (by kernel_rfl) (by kernel_rfl) (by kernel_rfl) (fun _ _ _ h => h) (Or.inl ⟨by rfl, ?hy22⟩) (by assumption) ?rest22
                  case hy22 => (intro w hSw; (try dsimp only at hSw); go_simp <;> with_reducible rfl)
                  simp only [Act.put, List.getElem_toArray, List.getElem_cons_zero, List.getElem_cons_succ, List.setIfInBounds_toArray, List.set_cons_zero, List.set_cons_succ]
                  refine wpAnyH_take (i := 24) (v := ?v24) rfl (by kernel_rfl) (by kernel_rfl) (by kernel_rfl) (fun _ _ _ h => h) (Or.inl ⟨by rfl, ?hy24⟩) (by assumption) ?rest24
                  case hy24 => (intro w hSw; (try dsimp only at hSw); go_simp <;> with_reducible rfl)
                  simp only [Act.put, List.getElem_toArray, List.getElem_cons_zero, List.getElem_cons_succ, List.setIfInBounds_toArray, List.set_cons_zero, List.set_cons_succ]
                  refine wpAnyH_take (i := 25) (v := ?v25) rfl (by kernel_rfl) (by kernel_rfl) (by kernel_rfl) (fun _ _ _ h => h) (Or.inl ⟨by rfl, ?hy25⟩) (by assumption) ?rest25
                  case hy25 => (intro w hSw; (try dsimp only at hSw); go_simp <;> with_reducible rfl)
                  simp only [Act.put, List.getElem_toArray, List.getElem_cons_zero, List.getElem_cons_succ, List.setIfInBounds_toArray, List.set_cons_zero, List.set_cons_succ]
                  refine wpAnyH_take (i := 29) (v := ?v29) rfl (by kernel_rfl) (by kernel_rfl) (by kernel_rfl) (fun _ _ _ h => h) (Or.inl ⟨by rfl, ?hy29⟩) (by assumption) ?rest29
                  case hy29 => (intro w hSw; (try dsimp only at hSw); go_simp <;> with_reducible rfl)
                  simp only [Act.put, List.getElem_toArray, List.getElem_cons_zero, List.getElem_cons_succ, List.setIfInBounds_toArray, List.set_cons_zero, List.set_cons_succ]
                  refine wpAnyH_take (i := 30) (v := ?v30) rfl (by kernel_rfl) (by kernel_rfl) (by kernel_rfl) (fun _ _ _ h => h) (Or.inl ⟨by rfl, ?hy30⟩) (by assumption) ?rest30
                  case hy30 => (intro w hSw; (try dsimp only at hSw); go_simp <;> with_reducible rfl)
                  simp only [Act.put, List.getElem_toArray, List.getElem_cons_zero, List.getElem_cons_succ, List.setIfInBounds_toArray, List.set_cons_zero, List.set_cons_succ]
                  refine wpAnyH_ready (rs := [23]) (by kernel_rfl) (by simp) ?_
                  refine AllReadyH.cons rfl (fun K hK => ?_) AllReadyH.nil
                  try simp only [Act.put, List.getElem_toArray, List.getElem_cons_zero, List.getElem_cons_succ, List.setIfInBounds_toArray, List.set_cons_zero, List.set_cons_succ]
                  go_simp
                  refine HC.out.mono ?_
                  rintro e w14 ⟨⟨b2, off2, cp2, rfl, hl⟩, ⟨k0, k1, k2, k3⟩, hb⟩
                  go_wp2_with fail
                  refine hK.out _ _ ?_ (fun hHeld2 => ?_)
                  · exact ⟨k0, k1, k2, k3⟩
                  clear hK K
                  try simp only [Act.put, List.getElem_toArray, List.getElem_cons_zero, List.getElem_cons_succ, List.setIfInBounds_toArray, List.set_cons_zero, List.set_cons_succ]
                  refine wpAnyH_take (i := 26) (v := ?v26) rfl (by kernel_rfl) (by kernel_rfl) (by kernel_rfl) (fun _ _ _ h => h) (Or.inl ⟨by rfl, ?hy26⟩) (by assumption) ?rest26
                  case hy26 => (intro w hSw; (try dsimp only at hSw); go_simp <;> with_reducible rfl)
                  simp only [Act.put, List.getElem_toArray, List.getElem_cons_zero, List.getElem_cons_succ, List.setIfInBounds_toArray, List.set_cons_zero, List.set_cons_succ]
                  refine wpAnyH_take (i := 27) (v := ?v27) rfl (by kernel_rfl) (by kernel_rfl) (by kernel_rfl) (fun _ _ _ h => h) (Or.inl ⟨by rfl, ?hy27⟩) (by assumption) ?rest27
                  case hy27 => (intro w hSw; (try dsimp only at hSw); go_simp <;> with_reducible rfl)
                  simp only [Act.put, List.getElem_toArray, List.getElem_cons_zero, List.getElem_cons_succ, List.setIfInBounds_toArray, List.set_cons_zero, List.set_cons_succ]
                  refine wpAnyH_ready (rs := [28]) (by kernel_rfl) (by simp) ?_
                  refine AllReadyH.cons rfl (fun K hK => ?_) AllReadyH.nil
                  try simp only [Act.put, List.getElem_toArray, List.getElem_cons_zero, List.getElem_cons_succ, List.setIfInBounds_toArray, List.set_cons_zero, List.set_cons_succ]
                  go_simp
                  refine hK.out _ _ ?_ (fun hHeld3 => ?_)
                  · exact ⟨k0, k1, k2, k3⟩
                  clear hK K
                  try simp only [Act.put, List.getElem_toArray, List.getElem_cons_zero, List.getElem_cons_succ, List.setIfInBounds_toArray, List.set_cons_zero, List.set_cons_succ]
                  refine wpAnyH_take (i := 31) (v := ?v31) rfl (by kernel_rfl) (by kernel_rfl) (by kernel_rfl) (fun _ _ _ h => h) (Or.inl ⟨by rfl, ?hy31⟩) (by assumption) ?rest31
                  case hy31 => (intro w hSw; (try dsimp only at hSw); go_simp <;> with_reducible rfl)
                  simp only [Act.put, List.getElem_toArray, List.getElem_cons_zero, List.getElem_cons_succ, List.setIfInBounds_toArray, List.set_cons_zero, List.set_cons_succ]
                  refine wpAnyH_take (i := 32) (v := ?v32) rfl (by kernel_rfl) (by kernel_rfl) (by kernel_rfl) (fun _ _ _ h => h) (Or.inl ⟨by rfl, ?hy32⟩) (by assumption) ?rest32
                  case hy32 => (intro w hSw; (try dsimp only at hSw); go_simp <;> with_reducible rfl)
                  simp only [Act.put, List.getElem_toArray, List.getElem_cons_zero, List.getElem_cons_succ, List.setIfInBounds_toArray, List.set_cons_zero, List.set_cons_succ]
                  refine wpAnyH_take (i := 33) (v := ?v33) rfl (by kernel_rfl) (by kernel_rfl) (by kernel_rfl) (fun _ _ _ h => h) (Or.inl ⟨by rfl, ?hy33⟩) (by assumption) ?rest33
                  case hy33 => (intro w hSw; (try dsimp only at hSw); go_simp <;> with_reducible rfl)
                  simp only [Act.put, List.getElem_toArray, List.getElem_cons_zero, List.getElem_cons_succ, List.setIfInBounds_toArray, List.set_cons_zero, List.set_cons_succ]
                  refine wpAnyH_done (by kernel_rfl) ?_ _
                  have HST14 := Lib.hid ((HST13.out.below (Dr.below (dr_drew _))).below hb)
                  clear hb k0 k1 k2 k3 hl HC d1 d3 o1 o3
                  go_wp2
                  go_roundw
                  case rel => exact ⟨p + 1 + 1, by omega, by go_num, HST14.out⟩
                  case measure => simp [intOf]; omega
              | true =>
                obtain ⟨rfl, hgon, hle⟩ := HF2.out hon
                have hle2 : ¬ (z.since < go.since) := by omega
                have hdec : decide (z.since < go.since) = false := decide_eq_false hle2
                rw [hon] at d3
                replace o3 : (w12.alloc (.cells #[.string go.client, .int .i64 go.since, .int .i64 go.qos, .bool go.online] 66)).cell? ⟨w12.heap.size, 3, none⟩ = some (.bool true) := by rw [o3, hgon]
                clear hgon
                clear HF2 hon
                rcases kk with _ | p
                · skip
                  have e0 := fun n : Wd (Dr (w12.alloc (.cells #[.string go.client, .int .i64 go.since, .int .i64 go.qos, .bool go.online] 66))) => n.cellD d3
                  have e1 := fun n : Wd (Dr (w12.alloc (.cells #[.string go.client, .int .i64 go.since, .int .i64 go.qos, .bool go.online] 66))) => n.cellD d1
                  have e2 := fun n : Wd (Dr (w12.alloc (.cells #[.string go.client, .int .i64 go.since, .int .i64 go.qos, .bool go.online] 66))) => n.cellD o3
                  have e3 := fun n : Wd (Dr (w12.alloc (.cells #[.string go.client, .int .i64 go.since, .int .i64 go.qos, .bool go.online] 66))) => n.cellD o1
                  clear d1 d3 o1 o3 HALL3
                  go_upto_region 21 with (fail)
                  refine wp_region_cls (Dr (w12.alloc (.cells #[.string go.client, .int .i64 go.since, .int .i64 go.qos, .bool go.online] 66))) (dr_drew _) (by kernel_rfl) (by kernel_rfl) ?_
                  repeat (go_big_quiet_step (fail))
                  refine wpQuiet_nil ?_
                  rintro _ ⟨⟨wq, hq⟩, rfl⟩
                  have HST14 := Lib.hid (HST13.out.below (Dr.below hq))
                  clear hq e0 e1 e2 e3
                  go_wp2
                  go_roundw
                  case rel => exact ⟨0 + 1, by omega, by go_num, HST14.out⟩
                  case measure => simp [intOf]; omega
                · skip
                  obtain ⟨p', hp'⟩ : ∃ p', ms2[p]? = some p' := ⟨_, List.getElem?_eq_getElem (by omega)⟩
                  have hps : ¬ (z.since ≤ p'.since) := by have := HINV2.out.sort p (p + 1) p' z hp' HZ.out (by omega); omega
                  have HC := Lib.hid (show Calls Try.prog 50 #[.pointer (some ⟨w.heap.size, 0, none⟩)] (w12.alloc (.cells #[.string go.client, .int .i64 go.since, .int .i64 go.qos, .bool go.online] 66)).drew fun e w' => (∃ b2 off2 cp2, e = .returned (.slice (some ⟨b2, off2, none⟩) ms2.length cp2) ∧ w'.cell? ⟨b2, off2 + p * 4 + 1, none⟩ = some (.int .i64 p'.since)) ∧
                      (w'.cell? ⟨w10.heap.size, 3, none⟩ = some (.bool true) ∧ w'.cell? ⟨w10.heap.size, 1, none⟩ = some (.int .i64 z.since) ∧ w'.cell? ⟨w12.heap.size, 3, none⟩ = some (.bool true) ∧ w'.cell? ⟨w12.heap.size, 1, none⟩ = some (.int .i64 go.since)) ∧ Below (w12.alloc (.cells #[.string go.client, .int .i64 go.since, .int .i64 go.qos, .bool go.online] 66)).drew.heap.size (w12.alloc (.cells #[.string go.client, .int .i64 go.since, .int .i64 go.qos, .bool go.online] 66)).drew w' by
                    refine HALL3.out.mono ?_
                    rintro e w' ⟨⟨va, rfl, hr⟩, hb⟩
                    obtain ⟨A3, cp3, rfl, hS3⟩ := hr.form
                    obtain ⟨b3, off3, rfl, -, -, y1, -, -, -⟩ := mem_cells hS3 hp'
                    have kept : ∀ {a : Addr} {v : Value}, (w12.alloc (.cells #[.string go.client, .int .i64 go.since, .int .i64 go.qos, .bool go.online] 66)).cell? a = some v → w'.cell? a = some v := fun h => (Same.of_below hb).cell h
                    exact ⟨⟨b3, off3, cp3, rfl, y1⟩, ⟨kept d3, kept d1, kept o3, kept o1⟩, hb⟩)
                  have hdec2 : decide (z.since ≤ p'.since) = false := decide_eq_false hps
                  have hwr : IntKind.i64.wrap (p : Int) = p := wrap_small (by omega)
                  have hp0 : (0 : Int) ≤ (p : Int) := by omega
                  have hp1 : (p : Int) < ms2.length := by omega
                  clear hp' HALL3
                  go_upto_region 21 with (fail)
                  refine wp_region_held_drew (S := fun w' => w'.cell? ⟨w10.heap.size, 3, none⟩ = some (.bool true) ∧ w'.cell? ⟨w10.heap.size, 1, none⟩ = some (.int .i64 z.since) ∧ w'.cell? ⟨w12.heap.size, 3, none⟩ = some (.bool true) ∧ w'.cell? ⟨w12.heap.size, 1, none⟩ = some (.int .i64 go.since)) (by kernel_rfl) ⟨d3, d1, o3, o1⟩ (fun hHeld => ?_)
                  refine wpAnyH_take (i := 0) (v := ?vT0) rfl (by kernel_rfl) (by kernel_rfl) (by kernel_rfl) (fun _ _ _ h => h) (Or.inl ⟨by rfl, ?hyT0⟩) (by assumption) ?restT0
                  case hyT0 => (intro w hSw; (try dsimp only at hSw); go_simp <;> with_reducible rfl)
                  simp only [Act.put, List.getElem_toArray, List.getElem_cons_zero, List.getElem_cons_succ, List.setIfInBounds_toArray, List.set_cons_zero, List.set_cons_succ]
                  refine wpAnyH_take (i := 1) (v := ?vT1) rfl (by kernel_rfl) (by kernel_rfl) (by kernel_rfl) (fun _ _ _ h => h) (Or.inl ⟨by rfl, ?hyT1⟩) (by assumption) ?restT1
                  case hyT1 => (intro w hSw; (try dsimp only at hSw); go_simp <;> with_reducible rfl)
                  simp only [Act.put, List.getElem_toArray, List.getElem_cons_zero, List.getElem_cons_succ, List.setIfInBounds_toArray, List.set_cons_zero, List.set_cons_succ]
                  refine wpAnyH_take (i := 2) (v := ?vT2) rfl (by kernel_rfl) (by kernel_rfl) (by kernel_rfl) (fun _ _ _ h => h) (Or.inl ⟨by rfl, ?hyT2⟩) (by assumption) ?restT2
                  case hyT2 => (intro w hSw; (try dsimp only at hSw); go_simp <;> with_reducible rfl)
                  simp only [Act.put, List.getElem_toArray, List.getElem_cons_zero, List.getElem_cons_succ, List.setIfInBounds_toArray, List.set_cons_zero, List.set_cons_succ]
                  refine wpAnyH_take (i := 3) (v := ?vT3) rfl (by kernel_rfl) (by kernel_rfl) (by kernel_rfl) (fun _ _ _ h => h) (Or.inl ⟨by rfl, ?hyT3⟩) (by assumption) ?restT3
                  case hyT3 => (intro w hSw; (try dsimp only at hSw); go_simp <;> with_reducible rfl)
                  simp only [Act.put, List.getElem_toArray, List.getElem_cons_zero, List.getElem_cons_succ, List.setIfInBounds_toArray, List.set_cons_zero, List.set_cons_succ]
                  refine wpAnyH_take (i := 4) (v := ?vT4) rfl (by kernel_rfl) (by kernel_rfl) (by kernel_rfl) (fun _ _ _ h => h) (Or.inl ⟨by rfl, ?hyT4⟩) (by assumption) ?restT4
                  case hyT4 => (intro w hSw; (try dsimp only at hSw); go_simp <;> with_reducible rfl)
                  simp only [Act.put, List.getElem_toArray, List.getElem_cons_zero, List.getElem_cons_succ, List.setIfInBounds_toArray, List.set_cons_zero, List.set_cons_succ]
                  refine wpAnyH_take (i := 5) (v := ?vT5) rfl (by kernel_rfl) (by kernel_rfl) (by kernel_rfl) (fun _ _ _ h => h) (Or.inl ⟨by rfl, ?hyT5⟩) (by assumption) ?restT5
                  case hyT5 => (intro w hSw; (try dsimp only at hSw); go_simp <;> with_reducible rfl)
                  simp only [Act.put, List.getElem_toArray, List.getElem_cons_zero, List.getElem_cons_succ, List.setIfInBounds_toArray, List.set_cons_zero, List.set_cons_succ]
                  refine wpAnyH_take (i := 6) (v := ?vT6) rfl (by kernel_rfl) (by kernel_rfl) (by kernel_rfl) (fun _ _ _ h => h) (Or.inl ⟨by rfl, ?hyT6⟩) (by assumption) ?restT6
                  case hyT6 => (intro w hSw; (try dsimp only at hSw); go_simp <;> with_reducible rfl)
                  simp only [Act.put, List.getElem_toArray, List.getElem_cons_zero, List.getElem_cons_succ, List.setIfInBounds_toArray, List.set_cons_zero, List.set_cons_succ]
                  refine wpAnyH_take (i := 7) (v := ?vT7) rfl (by kernel_rfl) (by kernel_rfl) (by kernel_rfl) (fun _ _ _ h => h) (Or.inl ⟨by rfl, ?hyT7⟩) (by assumption) ?restT7
                  case hyT7 => (intro w hSw; (try dsimp only at hSw); go_simp <;> with_reducible rfl)
                  simp only [Act.put, List.getElem_toArray, List.getElem_cons_zero, List.getElem_cons_succ, List.setIfInBounds_toArray, List.set_cons_zero, List.set_cons_succ]
                  refine wpAnyH_take (i := 8) (v := ?vT8) rfl (by kernel_rfl) (by kernel_rfl) (by kernel_rfl) (fun _ _ _ h => h) (Or.inl ⟨by rfl, ?hyT8⟩) (by assumption) ?restT8
                  case hyT8 => (intro w hSw; (try dsimp only at hSw); go_simp <;> with_reducible rfl)
                  simp only [Act.put, List.getElem_toArray, List.getElem_cons_zero, List.getElem_cons_succ, List.setIfInBounds_toArray, List.set_cons_zero, List.set_cons_succ]
                  refine wpAnyH_take (i := 9) (v := ?vT9) rfl (by kernel_rfl) (by kernel_rfl) (by kernel_rfl) (fun _ _ _ h => h) (Or.inl ⟨by rfl, ?hyT9⟩) (by assumption) ?restT9
                  case hyT9 => (intro w hSw; (try dsimp only at hSw); go_simp <;> with_reducible rfl)
                  simp only [Act.put, List.getElem_toArray, List.getElem_cons_zero, List.getElem_cons_succ, List.setIfInBounds_toArray, List.set_cons_zero, List.set_cons_succ]
                  refine wpAnyH_take (i := 10) (v := ?vT10) rfl (by kernel_rfl) (by kernel_rfl) (by kernel_rfl) (fun _ _ _ h => h) (Or.inl ⟨by rfl, ?hyT10⟩) (by assumption) ?restT10
                  case hyT10 => (intro w hSw; (try dsimp only at hSw); go_simp <;> with_reducible rfl)
                  simp only [Act.put, List.getElem_toArray, List.getElem_cons_zero, List.getElem_cons_succ, List.setIfInBounds_toArray, List.set_cons_zero, List.set_cons_succ]
                  refine wpAnyH_take (i := 11) (v := ?vT11) rfl (by kernel_rfl) (by kernel_rfl) (by kernel_rfl) (fun _ _ _ h => h) (Or.inl ⟨by rfl, ?hyT11⟩) (by assumption) ?restT11
                  case hyT11 => (intro w hSw; (try dsimp only at hSw); go_simp <;> with_reducible rfl)
                  simp only [Act.put, List.getElem_toArray, List.getElem_cons_zero, List.getElem_cons_succ, List.setIfInBounds_toArray, List.set_cons_zero, List.set_cons_succ]
                  refine wpAnyH_take (i := 12) (v := ?vT12) rfl (by kernel_rfl) (by kernel_rfl) (by kernel_rfl) (fun _ _ _ h => h) (Or.inl ⟨by rfl, ?hyT12⟩) (by assumption) ?restT12
                  case hyT12 => (intro w hSw; (try dsimp only at hSw); go_simp <;> with_reducible rfl)
                  simp only [Act.put, List.getElem_toArray, List.getElem_cons_zero, List.getElem_cons_succ, List.setIfInBounds_toArray, List.set_cons_zero, List.set_cons_succ]
                  refine wpAnyH_take (i := 13) (v := ?vT13) rfl (by kernel_rfl) (by kernel_rfl) (by kernel_rfl) (fun _ _ _ h => h) (Or.inl ⟨by rfl, ?hyT13⟩) (by assumption) ?restT13
                  case hyT13 => (intro w hSw; (try dsimp only at hSw); go_simp <;> with_reducible rfl)
                  simp only [Act.put, List.getElem_toArray, List.getElem_cons_zero, List.getElem_cons_succ, List.setIfInBounds_toArray, List.set_cons_zero, List.set_cons_succ]
                  refine wpAnyH_take (i := 14) (v := ?vT14) rfl (by kernel_rfl) (by kernel_rfl) (by kernel_rfl) (fun _ _ _ h => h) (Or.inl ⟨by rfl, ?hyT14⟩) (by assumption) ?restT14
                  case hyT14 => (intro w hSw; (try dsimp only at hSw); go_simp <;> with_reducible rfl)
                  simp only [Act.put, List.getElem_toArray, List.getElem_cons_zero, List.getElem_cons_succ, List.setIfInBounds_toArray, List.set_cons_zero, List.set_cons_succ]
                  refine wpAnyH_take (i := 15) (v := ?vT15) rfl (by kernel_rfl) (by kernel_rfl) (by kernel_rfl) (fun _ _ _ h => h) (Or.inl ⟨by rfl, ?hyT15⟩) (by assumption) ?restT15
                  case hyT15 => (intro w hSw; (try dsimp only at hSw); go_simp <;> with_reducible rfl)
                  simp only [Act.put, List.getElem_toArray, List.getElem_cons_zero, List.getElem_cons_succ, List.setIfInBounds_toArray, List.set_cons_zero, List.set_cons_succ]
                  refine wpAnyH_take (i := 16) (v := ?vT16) rfl (by kernel_rfl) (by kernel_rfl) (by kernel_rfl) (fun _ _ _ h => h) (Or.inl ⟨by rfl, ?hyT16⟩) (by assumption) ?restT16
                  case hyT16 => (intro w hSw; (try dsimp only at hSw); go_simp <;> with_reducible rfl)
                  simp only [Act.put, List.getElem_toArray, List.getElem_cons_zero, List.getElem_cons_succ, List.setIfInBounds_toArray, List.set_cons_zero, List.set_cons_succ]
                  refine wpAnyH_take (i := 17) (v := ?vT17) rfl (by kernel_rfl) (by kernel_rfl) (by kernel_rfl) (fun _ _ _ h => h) (Or.inl ⟨by rfl, ?hyT17⟩) (by assumption) ?restT17
                  case hyT17 => (intro w hSw; (try dsimp only at hSw); go_simp <;> with_reducible rfl)
                  simp only [Act.put, List.getElem_toArray, List.getElem_cons_zero, List.getElem_cons_succ, List.setIfInBounds_toArray, List.set_cons_zero, List.set_cons_succ]
                  refine wpAnyH_take (i := 18) (v := ?vT18) rfl (by kernel_rfl) (by kernel_rfl) (by kernel_rfl) (fun _ _ _ h => h) (Or.inl ⟨by rfl, ?hyT18⟩) (by assumption) ?restT18
                  case hyT18 => (intro w hSw; (try dsimp only at hSw); go_simp <;> with_reducible rfl)
                  simp only [Act.put, List.getElem_toArray, List.getElem_cons_zero, List.getElem_cons_succ, List.setIfInBounds_toArray, List.set_cons_zero, List.set_cons_succ]
                  refine wpAnyH_take (i := 19) (v := ?vT19) rfl (by kernel_rfl) (by kernel_rfl) (by kernel_rfl) (fun _ _ _ h => h) (Or.inl ⟨by rfl, ?hyT19⟩) (by assumption) ?restT19
                  case hyT19 => (intro w hSw; (try dsimp only at hSw); go_simp <;> with_reducible rfl)
                  simp only [Act.put, List.getElem_toArray, List.getElem_cons_zero, List.getElem_cons_succ, List.setIfInBounds_toArray, List.set_cons_zero, List.set_cons_succ]
                  refine wpAnyH_take (i := 20) (v := ?vT20) rfl (by kernel_rfl) (by kernel_rfl) (by kernel_rfl) (fun _ _ _ h => h) (Or.inl ⟨by rfl, ?hyT20⟩) (by assumption) ?restT20
                  case hyT20 => (intro w hSw; (try dsimp only at hSw); go_simp <;> with_reducible rfl)
                  simp only [Act.put, List.getElem_toArray, List.getElem_cons_zero, List.getElem_cons_succ, List.setIfInBounds_toArray, List.set_cons_zero, List.set_cons_succ]
                  refine wpAnyH_take (i := 21) (v := ?vT21) rfl (by kernel_rfl) (by kernel_rfl) (by kernel_rfl) (fun _ _ _ h => h) (Or.inl ⟨by rfl, ?hyT21⟩) (by assumption) ?restT21
                  case hyT21 => (intro w hSw; (try dsimp only at hSw); go_simp <;> with_reducible rfl)
                  simp only [Act.put, List.getElem_toArray, List.getElem_cons_zero, List.getElem_cons_succ, List.setIfInBounds_toArray, List.set_cons_zero, List.set_cons_succ]
                  refine wpAnyH_take (i := 22) (v := ?vT22) rfl (by kernel_rfl) (by kernel_rfl) (by kernel_rfl) (fun _ _ _ h => h) (Or.inl ⟨by rfl, ?hyT22⟩) (by assumption) ?restT22
                  case hyT22 => (intro w hSw; (try dsimp only at hSw); go_simp <;> with_reducible rfl)
                  simp only [Act.put, List.getElem_toArray, List.getElem_cons_zero, List.getElem_cons_succ, List.setIfInBounds_toArray, List.set_cons_zero, List.set_cons_succ]
                  refine wpAnyH_take (i := 24) (v := ?vT24) rfl (by kernel_rfl) (by kernel_rfl) (by kernel_rfl) (fun _ _ _ h => h) (Or.inl ⟨by rfl, ?hyT24⟩) (by assumption) ?restT24
                  case hyT24 => (intro w hSw; (try dsimp only at hSw); go_simp <;> with_reducible rfl)
                  simp only [Act.put, List.getElem_toArray, List.getElem_cons_zero, List.getElem_cons_succ, List.setIfInBounds_toArray, List.set_cons_zero, List.set_cons_succ]
                  refine wpAnyH_take (i := 25) (v := ?vT25) rfl (by kernel_rfl) (by kernel_rfl) (by kernel_rfl) (fun _ _ _ h => h) (Or.inl ⟨by rfl, ?hyT25⟩) (by assumption) ?restT25
                  case hyT25 => (intro w hSw; (try dsimp only at hSw); go_simp <;> with_reducible rfl)
                  simp only [Act.put, List.getElem_toArray, List.getElem_cons_zero, List.getElem_cons_succ, List.setIfInBounds_toArray, List.set_cons_zero, List.set_cons_succ]
                  refine wpAnyH_take (i := 29) (v := ?vT29) rfl (by kernel_rfl) (by kernel_rfl) (by kernel_rfl) (fun _ _ _ h => h) (Or.inl ⟨by rfl, ?hyT29⟩) (by assumption) ?restT29
                  case hyT29 => (intro w hSw; (try dsimp only at hSw); go_simp <;> with_reducible rfl)
                  simp only [Act.put, List.getElem_toArray, List.getElem_cons_zero, List.getElem_cons_succ, List.setIfInBounds_toArray, List.set_cons_zero, List.set_cons_succ]
                  refine wpAnyH_take (i := 30) (v := ?vT30) rfl (by kernel_rfl) (by kernel_rfl) (by kernel_rfl) (fun _ _ _ h => h) (Or.inl ⟨by rfl, ?hyT30⟩) (by assumption) ?restT30
                  case hyT30 => (intro w hSw; (try dsimp only at hSw); go_simp <;> with_reducible rfl)
                  simp only [Act.put, List.getElem_toArray, List.getElem_cons_zero, List.getElem_cons_succ, List.setIfInBounds_toArray, List.set_cons_zero, List.set_cons_succ]
                  refine wpAnyH_ready (rs := [23]) (by kernel_rfl) (by simp) ?_
                  refine AllReadyH.cons rfl (fun K hK => ?_) AllReadyH.nil
                  try simp only [Act.put, List.getElem_toArray, List.getElem_cons_zero, List.getElem_cons_succ, List.setIfInBounds_toArray, List.set_cons_zero, List.set_cons_succ]
                  go_simp
                  refine HC.out.mono ?_
                  rintro e w14 ⟨⟨b2, off2, cp2, rfl, hl⟩, ⟨k0, k1, k2, k3⟩, hb⟩
                  go_wp2_with fail
                  refine hK.out _ _ ?_ (fun hHeld2 => ?_)
                  · exact ⟨k0, k1, k2, k3⟩
                  clear hK K
                  try simp only [Act.put, List.getElem_toArray, List.getElem_cons_zero, List.getElem_cons_succ, List.setIfInBounds_toArray, List.set_cons_zero, List.set_cons_succ]
                  refine wpAnyH_take (i := 26) (v := ?vT26) rfl (by kernel_rfl) (by kernel_rfl) (by kernel_rfl) (fun _ _ _ h => h) (Or.inl ⟨by rfl, ?hyT26⟩) (by assumption) ?restT26
                  case hyT26 => (intro w hSw; (try dsimp only at hSw); go_simp <;> with_reducible rfl)
                  simp only [Act.put, List.getElem_toArray, List.getElem_cons_zero, List.getElem_cons_succ, List.setIfInBounds_toArray, List.set_cons_zero, List.set_cons_succ]
                  refine wpAnyH_take (i := 27) (v := ?vT27) rfl (by kernel_rfl) (by kernel_rfl) (by kernel_rfl) (fun _ _ _ h => h) (Or.inl ⟨by rfl, ?hyT27⟩) (by assumption) ?restT27
                  case hyT27 => (intro w hSw; (try dsimp only at hSw); go_simp <;> with_reducible rfl)
                  simp only [Act.put, List.getElem_toArray, List.getElem_cons_zero, List.getElem_cons_succ, List.setIfInBounds_toArray, List.set_cons_zero, List.set_cons_succ]
                  refine wpAnyH_ready (rs := [28]) (by kernel_rfl) (by simp) ?_
                  refine AllReadyH.cons rfl (fun K hK => ?_) AllReadyH.nil
                  try simp only [Act.put, List.getElem_toArray, List.getElem_cons_zero, List.getElem_cons_succ, List.setIfInBounds_toArray, List.set_cons_zero, List.set_cons_succ]
                  go_simp
                  refine hK.out _ _ ?_ (fun hHeld3 => ?_)
                  · exact ⟨k0, k1, k2, k3⟩
                  clear hK K
                  try simp only [Act.put, List.getElem_toArray, List.getElem_cons_zero, List.getElem_cons_succ, List.setIfInBounds_toArray, List.set_cons_zero, List.set_cons_succ]
                  refine wpAnyH_take (i := 31) (v := ?vT31) rfl (by kernel_rfl) (by kernel_rfl) (by kernel_rfl) (fun _ _ _ h => h) (Or.inl ⟨by rfl, ?hyT31⟩) (by assumption) ?restT31
                  case hyT31 => (intro w hSw; (try dsimp only at hSw); go_simp <;> with_reducible rfl)
                  simp only [Act.put, List.getElem_toArray, List.getElem_cons_zero, List.getElem_cons_succ, List.setIfInBounds_toArray, List.set_cons_zero, List.set_cons_succ]
                  refine wpAnyH_take (i := 32) (v := ?vT32) rfl (by kernel_rfl) (by kernel_rfl) (by kernel_rfl) (fun _ _ _ h => h) (Or.inl ⟨by rfl, ?hyT32⟩) (by assumption) ?restT32
                  case hyT32 => (intro w hSw; (try dsimp only at hSw); go_simp <;> with_reducible rfl)
                  simp only [Act.put, List.getElem_toArray, List.getElem_cons_zero, List.getElem_cons_succ, List.setIfInBounds_toArray, List.set_cons_zero, List.set_cons_succ]
                  refine wpAnyH_take (i := 33) (v := ?vT33) rfl (by kernel_rfl) (by kernel_rfl) (by kernel_rfl) (fun _ _ _ h => h) (Or.inl ⟨by rfl, ?hyT33⟩) (by assumption) ?restT33
                  case hyT33 => (intro w hSw; (try dsimp only at hSw); go_simp <;> with_reducible rfl)
                  simp only [Act.put, List.getElem_toArray, List.getElem_cons_zero, List.getElem_cons_succ, List.setIfInBounds_toArray, List.set_cons_zero, List.set_cons_succ]
                  refine wpAnyH_done (by kernel_rfl) ?_ _
                  have HST14 := Lib.hid ((HST13.out.below (Dr.below (dr_drew _))).below hb)
                  clear hb k0 k1 k2 k3 hl HC d1 d3 o1 o3
                  go_wp2
                  go_roundw
                  case rel => exact ⟨p + 1 + 1, by omega, by go_num, HST14.out⟩
                  case measure => simp [intOf]; omega
            · obtain rfl : kk = ms2.length := by omega
              go_wp2_with fail
              go_roundw
              case rel => exact ⟨k + 1, _, ms2, _, by omega, by go_num, hg20, by omega, by omega, HINV2.out, HST9.out⟩
              case measure => simp [intOf]; omega
      · obtain rfl : k = l.length := by omega
        have HWE := Lib.hid (awake_end hst.bel)
        clear hst
        go_wp2_with fail
        refine HWE.out.mono ?_
        rintro e w2 ⟨rfl, hb⟩
        have HB := Lib.hid hb
        clear hb
        go_wp2_with fail
        go_ret
        exact ⟨rfl, HB.out⟩
end Go.Proofs.Ytclhgnlhejohgaa.MemW
