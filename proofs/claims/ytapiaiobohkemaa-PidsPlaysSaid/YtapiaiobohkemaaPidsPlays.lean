/- PidsPlays: its walk. -/
import Derived.Test.YtapiaiobohkemaaPidsLaw
import Derived.Deep.RegionHeld3
set_option linter.unusedVariables false
set_option linter.unusedSimpArgs false
namespace Go.Proofs.Ytapiaiobohkemaa.PidsW
open Go.RowKit Go.Proofs.Ytapiaiobohkemaa.Tc PidsPure

theorem quiet_left {P : Program} {f : FuncId} {args : Array Value} {w : World} {n : Nat} {v : Value}
    (h : Calls P f args (w.drewN n) fun e w' => e = .returned v ∧ w.drewN n = w') : Calls P f args (w.drewN n) fun e w'' => e = .returned v ∧ ∃ m, w'' = w.drewN m :=
  h.mono fun _ _ ⟨he, hm⟩ => ⟨he, n, hm.symm⟩

/-- All that the law keeps from round to round. -/
structure PI (B : World) (s m sx z nb : Nat) (most last : Int) (L : List Int) (v : Value) (w : World) : Prop where
  a : At w s m most last L
  r : RAt w sx v most last L
  hz : w.heap[z]? = some (.cells #[.int .i64 0, .int .i64 0, .map none] 38 (0, 0))
  hn : w.heap[nb]? = some (.cells #[.pointer none, .pointer (some ⟨z, 0, none⟩)] 32 (0, 0))
  below : Below B.heap.size B w
  own : ∀ g, v.ownBlock = some g → B.heap.size ≤ g
theorem PI.drewN {B : World} {s m sx z nb : Nat} {most last : Int} {L : List Int} {v : Value} {w : World} (h : PI B s m sx z nb most last L v w) (n : Nat) : PI B s m sx z nb most last L v (w.drewN n) :=
  ⟨h.a.drewN n, h.r.drewN n, h.hz, h.hn, below_drewN h.below n, h.own⟩
theorem PI.grown {B : World} {s m sx z nb : Nat} {most last : Int} {L : List Int} {v : Value} {w w' : World} (h : PI B s m sx z nb most last L v w) (hb : Below w.heap.size w w') : PI B s m sx z nb most last L v w' := by
  have ht : Tch [] w w' := Tch.of_below hb
  exact ⟨h.a.kept ht (by simp) (by simp), h.r.kept ht (by simp) (by simp), (ht.block _ (lt_of_block h.hz) (by simp)).trans h.hz, (ht.block _ (lt_of_block h.hn) (by simp)).trans h.hn, h.below.trans (hb.mono h.below.size), h.own⟩
/-- What both objects' acts leave. -/
theorem PI.acts {B : World} {s m sx z nb : Nat} {most last : Int} {L : List Int} {v : Value} {w w1 w2 : World} {last' : Int} {L' : List Int} {v' : Value} (h : PI B s m sx z nb most last L v w)
    (hsz : s ≠ z) (hs : B.heap.size ≤ s) (hm : B.heap.size ≤ m) (hx : B.heap.size ≤ sx)
    (hA : At w1 s m most last' L') (hT : Tch [s, m] w w1) (hR : RAt w2 sx v' most last' L') (hT2 : Tch (sx :: v.ownBlock.toList) w1 w2) (hv : ∀ g, v'.ownBlock = some g → v.ownBlock = some g ∨ w1.heap.size ≤ g) :
    PI B s m sx z nb most last' L' v' w2 := by
  obtain ⟨es, k, hmap⟩ := h.a.mp.block
  have own_ne : ∀ {b : Nat} {c : Array Value} {t : TypeId}, w.heap[b]? = some (.cells c t (0, 0)) → 3 ≠ t → b ∉ v.ownBlock.toList := by
    intro b c t hb ht hin
    exact own_type_ne h.r.row hb ht b (by simpa using hin) rfl
  have s_sx : s ≠ sx := type_ne h.a.st h.r.st (by decide)
  have m_sx : m ≠ sx := (map_ne h.r.st hmap).symm
  have m_own : m ∉ v.ownBlock.toList := by
    intro hin
    exact own_map_ne h.r.row hmap m (by simpa using hin) rfl
  have nb_s : nb ≠ s := type_ne h.hn h.a.st (by decide)
  have nb_m : nb ≠ m := map_ne h.hn hmap
  have nb_sx : nb ≠ sx := type_ne h.hn h.r.st (by decide)
  have z_m : z ≠ m := map_ne h.hz hmap
  have z_sx : z ≠ sx := type_ne h.hz h.r.st (by decide)
  have keep : ∀ {b : Nat} {o : Obj}, w.heap[b]? = some o → b ≠ s → b ≠ m → b ≠ sx → b ∉ v.ownBlock.toList → w2.heap[b]? = some o := by
    intro b o hb h1 h2 h3 h4
    have hlt := lt_of_block hb
    rw [hT2.block b (Nat.lt_of_lt_of_le hlt hT.size) (by simp only [List.mem_cons]; exact fun hh => hh.elim h3 h4), hT.block b hlt (by simp [h1, h2])]
    exact hb
  refine ⟨hA.kept hT2 ?_ ?_, hR, keep h.hz (Ne.symm hsz) z_m z_sx (own_ne h.hz (by decide)), keep h.hn nb_s nb_m nb_sx (own_ne h.hn (by decide)), ?_, ?_⟩
  · simp only [List.mem_cons]
    exact fun hh => hh.elim s_sx (own_ne h.a.st (by decide))
  · simp only [List.mem_cons]
    exact fun hh => hh.elim m_sx m_own
  · have b1 := h.below.trans (hT.below h.below.size (by simp [hs, hm]))
    refine b1.trans (hT2.below b1.size ?_)
    intro i hi
    rcases List.mem_cons.1 hi with rfl | hi
    · exact hx
    · exact h.own i (by simpa using hi)
  · intro g hg
    rcases hv g hg with h1 | h1
    · exact h.own g h1
    · exact Nat.le_trans (Nat.le_trans h.below.size hT.size) h1
/-- The reference's object behind the program's act. -/
theorem PI.ref {B : World} {s m sx z nb : Nat} {most last : Int} {L : List Int} {v : Value} {w w1 : World} (h : PI B s m sx z nb most last L v w) (hT : Tch [s, m] w w1) : RAt w1 sx v most last L := by
  obtain ⟨es, k, hmap⟩ := h.a.mp.block
  refine h.r.kept hT ?_ ?_
  · simp only [List.mem_cons, List.not_mem_nil, or_false]
    exact fun hh => hh.elim (fun e => type_ne h.r.st h.a.st (by decide) e) (fun e => map_ne h.r.st hmap e)
  · intro g hg
    simp only [List.mem_cons, List.not_mem_nil, or_false]
    exact fun hh => hh.elim (fun e => own_type_ne h.r.row h.a.st (by decide) g hg e) (fun e => own_map_ne h.r.row hmap g hg e)
theorem PI.nobody {B : World} {s m sx z nb : Nat} {most last : Int} {L : List Int} {v : Value} {w : World} (h : PI B s m sx z nb most last L v w) : Nobody w (.pointer none) ∧ Nobody w (.pointer (some ⟨z, 0, none⟩)) :=
  ⟨.inl rfl, .inr ⟨z, rfl, h.hz⟩⟩

set_option maxHeartbeats 4000000 in
set_option maxRecDepth 100000 in
theorem plays_law (w : World) (most : Int) (A : Option Addr) (len cap : Nat) (acts : List (Int × Int)) (hm : (Lit.int .i64 most).wf = true) (hl : acts.length = len ∧ SliceIs kAct w A acts) :
    Calls Try.prog 6 #[.int .i64 most, .slice A len cap] w fun e w' => e = .returned (.bool true) ∧ Below w.heap.size w w' := by
  obtain ⟨rfl, hS⟩ := hl
  have hlen := hS.len
  unfold maxLen at hlen
  by_cases h60 : acts.length ≤ 60
  · have HS := Lib.hid hS
    have HM := Lib.hid hm
    clear hS hm
    go_enter Try.func6, Try.ntmps6
    go_wp2_with fail
    refine (new_any _ most HM.out).mono ?_
    rintro e w1 ⟨rfl, hA, hB⟩
    have hs0 : w.heap.size ≤ w.heap.size + 1 := by omega
    have hm0 : w.heap.size ≤ w.heap.size := Nat.le_refl _
    generalize hge : w.heap.size + 1 = s at hA hs0 ⊢
    have hr := rnew_any w1 most HM.out
    have HR := Lib.hid hr
    have HA := Lib.hid hA
    have HB := Lib.hid hB
    have HGE := Lib.hid hge
    clear hr hA hB hge
    go_wp2_with fail
    refine HR.out.mono ?_
    rintro e w2 ⟨rfl, hR, hB2⟩
    go_wp2
    have hA2 := HA.out.kept (Tch.of_below (S := []) hB2) (by simp) (by simp)
    have b1 := HB.out
    have b2 := b1.trans (hB2.mono b1.size)
    have hsz : s ≠ w2.heap.size := by have := lt_of_block hA2.st; omega
    have hsx := b1.size
    have hP0 : PI w s w.heap.size w1.heap.size w2.heap.size (w2.heap.size + 1) (max 0 (min most 65535)) 0 [] (.slice none 0 0)
        ((w2.alloc (.cells #[.int .i64 0, .int .i64 0, .map none] 38)).alloc (.cells #[.pointer none, .pointer (some ⟨w2.heap.size, 0, none⟩)] 32)) := by
      have hT : Tch [] w2 ((w2.alloc (.cells #[.int .i64 0, .int .i64 0, .map none] 38)).alloc (.cells #[.pointer none, .pointer (some ⟨w2.heap.size, 0, none⟩)] 32)) := ((Tch.refl _ _).alloc _).alloc _
      refine ⟨hA2.kept hT (by simp) (by simp), hR.kept hT (by simp) (by simp), ?_, ?_, b2.trans (hT.below b2.size (by simp)), by simp [Value.ownBlock]⟩
      · exact (Below.heap_alloc _ _ _ (by simp)).trans (heap_alloc_new w2 _)
      · have := heap_alloc_new (w2.alloc (.cells #[.int .i64 0, .int .i64 0, .map none] 38)) (.cells #[.pointer none, .pointer (some ⟨w2.heap.size, 0, none⟩)] 32)
        simpa using this
    have I0 : Inv (max 0 (min most 65535)) 0 [] := ⟨by omega, by omega, by omega, by omega, by simp, by simp⟩
    generalize max 0 (min most 65535) = M at hP0 I0
    have HP0 := Lib.hid hP0
    clear hA2 hB2 hR b1 b2 hP0 HA HB HR HGE
    generalize w1.heap.size = sx at *
    generalize w2.heap.size = z at *
    go_loopw [8] (fun x wr => ∃ (k : Nat) (last : Int) (L : List Int) (v : Value), k ≤ acts.length ∧ x = .int .i64 k ∧ PI w s w.heap.size sx z (z + 1) M last L v wr ∧ Inv M last L ∧ L.length ≤ k) (fun x _ => acts.length - (intOf x).toNat)
    case atStart => exact ⟨0, 0, [], _, by omega, rfl, HP0.out, I0, by simp⟩
    case round =>
      obtain ⟨k, last, L, v, hk, rfl, hP, hI, hL⟩ := hrel
      clear HP0 I0
      by_cases hlt : k < acts.length
      · obtain ⟨b, off, rfl, hbl, c0, c1, a0, a1⟩ := act_cells (HS.out.below hP.below) hlt
        have hdo := do_any wr _ _ M last L hP.a hI (by omega) acts[k].1 acts[k].2 a1
        have hI' := act_inv hI acts[k].1 acts[k].2
        have hL' := act_len M last L acts[k].1 acts[k].2
        have hn1 := fun W h => rnext_act W sx v M last L h hI acts[k].2
        have hn2 := fun W h => ruse_act W sx v M last L h (by omega) acts[k].2
        have hn3 := fun W h => rfree_act W sx v M last L h (by omega) acts[k].2
        have hz2 : (pact M last L 2 acts[k].2).1.1 = 0 := by
          unfold pact
          rw [if_neg (by decide), if_pos rfl]
          split <;> rfl
        have hz3 : (pact M last L 3 acts[k].2).1.1 = 0 := by
          unfold pact
          rw [if_neg (by decide), if_neg (by decide), if_pos rfl]
          split <;> rfl
        have HP := Lib.hid hP
        obtain ⟨n, ok, last', L', hr⟩ : ∃ n ok last' L', pact M last L acts[k].1 acts[k].2 = ((n, ok), last', L') := ⟨_, _, _, _, rfl⟩
        have hr0 := hr
        rw [hr] at hdo hI' hL'
        simp only at hdo hI' hL'
        have HD := Lib.hid hdo
        clear hdo
        have h4 : acts[k].1 = 1 ∨ acts[k].1 = 2 ∨ acts[k].1 = 3 ∨ (acts[k].1 ≠ 1 ∧ acts[k].1 ≠ 2 ∧ acts[k].1 ≠ 3) := by omega
        rcases h4 with h1 | h1 | h1 | h1
        · rw [h1] at hr0
          rw [hr0] at hn1
          simp only at hn1
          have HN := Lib.hid hn1
          have t1 : (acts[k].1 == 1) = true := by rw [h1]; rfl
          clear hn1 hn2 hn3 hz2 hz3 hr hr0 hP hI h1
          go_wp2_with fail
          (with_reducible refine HD.out.mono ?_)
          rintro e w1 ⟨rfl, hA1, hT1⟩
          have hR1 := HP.out.ref hT1
          obtain ⟨b', off', hAA, hbl2, d0, d1, -, -⟩ := act_cells (HS.out.below (HP.out.below.trans (hT1.below HP.out.below.size (by simp [hs0])))) hlt
          injection hAA with hAA
          injection hAA with hb1 hb2
          subst hb1
          subst hb2
          have HA1 := Lib.hid hA1
          have HT1 := Lib.hid hT1
          have HR1 := Lib.hid (HN.out w1 hR1)
          clear hA1 hT1 hR1 c0 c1
          go_wp2_with fail
          (with_reducible refine HR1.out.mono ?_)
          rintro e w2 ⟨rfl, v', hR2, hT2, hv2⟩
          have hQ := HP.out.acts hsz hs0 hm0 hsx HA1.out HT1.out hR2 hT2 hv2
          have HQ := Lib.hid hQ
          clear hR2 hT2 hv2 hQ
          clear d0 d1
          have hlen17 := fun n => len_any (w2.drewN n) _ _ M last' L' (HQ.out.a.drewN n)
          have his17 := fun n => is_any (w2.drewN n) _ _ M last' L' (HQ.out.a.drewN n) acts[k].2 a1
          have hris17 := fun n => ris_any (w2.drewN n) _ _ M last' L' (HQ.out.r.drewN n) acts[k].2
          have HL17 := Lib.hid hlen17
          have HI17 := Lib.hid his17
          have HR17 := Lib.hid hris17
          have d2 : w2.cell? ⟨sx, 2, none⟩ = some v' := cell_of HQ.out.r.st rfl
          obtain ⟨A', cc, rfl⟩ := own_form HQ.out.r.row
          obtain ⟨b', off', hAA, hbl2, e0, e1, -, -⟩ := act_cells (HS.out.below HQ.out.below) hlt
          injection hAA with hAA
          injection hAA with hb1 hb2
          subst hb1
          subst hb2
          clear hlen17 his17 hris17
          go_wp2
          go_quiet ((first | (go_at_call 27; exact quiet_left (HL17.out _)) | (go_at_call 28; exact quiet_left (HI17.out _)) | (go_at_call 29; exact quiet_left (HR17.out _))))
          have hq3 := HQ.out.drewN nq
          generalize w2.drewN nq = w3 at hq3 ⊢
          clear HL17 HI17 HR17 d2 e0 e1
          have HQ3 := Lib.hid hq3
          clear hq3
          go_wp2
          obtain ⟨wo, rfl⟩ : ∃ wo : World, wo = w3 := ⟨_, rfl⟩
          go_loopw [13] (fun x wr => ∃ j : Nat, j ≤ 2 ∧ x = .int .i64 j ∧ PI w s w.heap.size sx z (z + 1) M last' L' (.slice A' L'.length cc) wr) (fun x _ => 2 - (intOf x).toNat)
          case atStart => exact ⟨0, by omega, rfl, HQ3.out⟩
          case round =>
            obtain ⟨j, hj, rfl, hQ⟩ := hrel
            have hj3 : j = 0 ∨ j = 1 ∨ j = 2 := by omega
            rcases hj3 with rfl | rfl | rfl
            · have HQ := Lib.hid hQ
              have hnd := ndo_any wr.drew (.pointer none) (.inl rfl) acts[k].1 acts[k].2 a1
              have HND := Lib.hid hnd
              have n0 : wr.cell? ⟨z + 1, 0, none⟩ = some (.pointer none) := cell_of hQ.hn rfl
              obtain ⟨b', off', hAA, hbl2, e0, e1, -, -⟩ := act_cells (HS.out.below hQ.below) hlt
              injection hAA with hAA
              injection hAA with hb1 hb2
              subst hb1
              subst hb2
              clear hQ hnd
              go_wp2
              go_region_held3 (fun w' => w'.cell? ⟨z + 1, 0, none⟩ = some (.pointer none) ∧ w'.cell? ⟨b, off + k * 2, none⟩ = some (.int .i64 acts[k].1) ∧ w'.cell? ⟨b, off + k * 2 + 1, none⟩ = some (.int .i64 acts[k].2))
                (first | exact ⟨n0, e0, e1⟩ | (refine ⟨?_, ?_, ?_⟩ <;> assumption))
                (first | (go_at_call 23; refine HND.out.mono ?_; rintro e w' ⟨rfl, hb'⟩; have k0 := (Same.of_below hb').cell n0; have k1 := (Same.of_below hb').cell e0; have k2 := (Same.of_below hb').cell e1))
              have hQ4 := (HQ.out.drewN 1).grown hb'
              have hl23 := fun n => nlen_any (w'.drewN n) (.pointer none) (.inl rfl)
              have hi23 := fun n => nis_any (w'.drewN n) (.pointer none) (.inl rfl) acts[k].2 a1
              have HL23 := Lib.hid hl23
              have HI23 := Lib.hid hi23
              have HQ4 := Lib.hid hQ4
              clear hl23 hi23 hQ4 n0 e0 e1 hb'
              go_wp2
              go_quiet ((first | (go_at_call 27; exact quiet_left (HL23.out _)) | (go_at_call 28; exact quiet_left (HI23.out _))))
              go_wp2
              go_roundw
              case rel => exact ⟨0 + 1, by omega, by go_num, HQ4.out.drewN _⟩
              case measure => simp [intOf]
            · have HQ := Lib.hid hQ
              have hnd := ndo_any wr.drew (.pointer (some ⟨z, 0, none⟩)) ((hQ.drewN 1).nobody.2) acts[k].1 acts[k].2 a1
              have HND := Lib.hid hnd
              have n0 : wr.cell? ⟨z + 1, 1, none⟩ = some (.pointer (some ⟨z, 0, none⟩)) := cell_of hQ.hn rfl
              obtain ⟨b', off', hAA, hbl2, e0, e1, -, -⟩ := act_cells (HS.out.below hQ.below) hlt
              injection hAA with hAA
              injection hAA with hb1 hb2
              subst hb1
              subst hb2
              clear hQ hnd
              go_wp2
              go_region_held3 (fun w' => w'.cell? ⟨z + 1, 1, none⟩ = some (.pointer (some ⟨z, 0, none⟩)) ∧ w'.cell? ⟨b, off + k * 2, none⟩ = some (.int .i64 acts[k].1) ∧ w'.cell? ⟨b, off + k * 2 + 1, none⟩ = some (.int .i64 acts[k].2))
                (first | exact ⟨n0, e0, e1⟩ | (refine ⟨?_, ?_, ?_⟩ <;> assumption))
                (first | (go_at_call 23; refine HND.out.mono ?_; rintro e w' ⟨rfl, hb'⟩; have k0 := (Same.of_below hb').cell n0; have k1 := (Same.of_below hb').cell e0; have k2 := (Same.of_below hb').cell e1))
              have hQ4 := (HQ.out.drewN 1).grown hb'
              have hl23 := fun n => nlen_any (w'.drewN n) (.pointer (some ⟨z, 0, none⟩)) ((hQ4.drewN n).nobody.2)
              have hi23 := fun n => nis_any (w'.drewN n) (.pointer (some ⟨z, 0, none⟩)) ((hQ4.drewN n).nobody.2) acts[k].2 a1
              have HL23 := Lib.hid hl23
              have HI23 := Lib.hid hi23
              have HQ4 := Lib.hid hQ4
              clear hl23 hi23 hQ4 n0 e0 e1 hb'
              go_wp2
              go_quiet ((first | (go_at_call 27; exact quiet_left (HL23.out _)) | (go_at_call 28; exact quiet_left (HI23.out _))))
              go_wp2
              go_roundw
              case rel => exact ⟨1 + 1, by omega, by go_num, HQ4.out.drewN _⟩
              case measure => simp [intOf]
            · have HQ := Lib.hid hQ
              clear hQ
              go_wp2
              go_roundw
              case rel => exact ⟨k + 1, last', L', _, by omega, by go_num, HQ.out, hI', by omega⟩
              case measure => simp [intOf]; omega
        · rw [h1] at hr0
          rw [hr0] at hn2 hz2
          simp only at hn2 hz2
          subst hz2
          have HN := Lib.hid hn2
          have t1 : (acts[k].1 == 1) = false := by rw [h1]; rfl
          have t2 : (acts[k].1 == 2) = true := by rw [h1]; rfl
          clear hn1 hn2 hn3 hz3 hr hr0 hP hI h1
          go_wp2_with fail
          (with_reducible refine HD.out.mono ?_)
          rintro e w1 ⟨rfl, hA1, hT1⟩
          have hR1 := HP.out.ref hT1
          obtain ⟨b', off', hAA, hbl2, d0, d1, -, -⟩ := act_cells (HS.out.below (HP.out.below.trans (hT1.below HP.out.below.size (by simp [hs0])))) hlt
          injection hAA with hAA
          injection hAA with hb1 hb2
          subst hb1
          subst hb2
          have HA1 := Lib.hid hA1
          have HT1 := Lib.hid hT1
          have HR1 := Lib.hid (HN.out w1 hR1)
          clear hA1 hT1 hR1 c0 c1
          go_wp2_with fail
          (with_reducible refine HR1.out.mono ?_)
          rintro e w2 ⟨rfl, v', hR2, hT2, hv2⟩
          have hQ := HP.out.acts hsz hs0 hm0 hsx HA1.out HT1.out hR2 hT2 hv2
          have HQ := Lib.hid hQ
          clear hR2 hT2 hv2 hQ
          clear d0 d1
          have hlen17 := fun n => len_any (w2.drewN n) _ _ M last' L' (HQ.out.a.drewN n)
          have his17 := fun n => is_any (w2.drewN n) _ _ M last' L' (HQ.out.a.drewN n) acts[k].2 a1
          have hris17 := fun n => ris_any (w2.drewN n) _ _ M last' L' (HQ.out.r.drewN n) acts[k].2
          have HL17 := Lib.hid hlen17
          have HI17 := Lib.hid his17
          have HR17 := Lib.hid hris17
          have d2 : w2.cell? ⟨sx, 2, none⟩ = some v' := cell_of HQ.out.r.st rfl
          obtain ⟨A', cc, rfl⟩ := own_form HQ.out.r.row
          obtain ⟨b', off', hAA, hbl2, e0, e1, -, -⟩ := act_cells (HS.out.below HQ.out.below) hlt
          injection hAA with hAA
          injection hAA with hb1 hb2
          subst hb1
          subst hb2
          clear hlen17 his17 hris17
          go_wp2
          go_quiet ((first | (go_at_call 27; exact quiet_left (HL17.out _)) | (go_at_call 28; exact quiet_left (HI17.out _)) | (go_at_call 29; exact quiet_left (HR17.out _))))
          have hq3 := HQ.out.drewN nq
          generalize w2.drewN nq = w3 at hq3 ⊢
          clear HL17 HI17 HR17 d2 e0 e1
          have HQ3 := Lib.hid hq3
          clear hq3
          go_wp2
          obtain ⟨wo, rfl⟩ : ∃ wo : World, wo = w3 := ⟨_, rfl⟩
          go_loopw [13] (fun x wr => ∃ j : Nat, j ≤ 2 ∧ x = .int .i64 j ∧ PI w s w.heap.size sx z (z + 1) M last' L' (.slice A' L'.length cc) wr) (fun x _ => 2 - (intOf x).toNat)
          case atStart => exact ⟨0, by omega, rfl, HQ3.out⟩
          case round =>
            obtain ⟨j, hj, rfl, hQ⟩ := hrel
            have hj3 : j = 0 ∨ j = 1 ∨ j = 2 := by omega
            rcases hj3 with rfl | rfl | rfl
            · have HQ := Lib.hid hQ
              have hnd := ndo_any wr.drew (.pointer none) (.inl rfl) acts[k].1 acts[k].2 a1
              have HND := Lib.hid hnd
              have n0 : wr.cell? ⟨z + 1, 0, none⟩ = some (.pointer none) := cell_of hQ.hn rfl
              obtain ⟨b', off', hAA, hbl2, e0, e1, -, -⟩ := act_cells (HS.out.below hQ.below) hlt
              injection hAA with hAA
              injection hAA with hb1 hb2
              subst hb1
              subst hb2
              clear hQ hnd
              go_wp2
              go_region_held3 (fun w' => w'.cell? ⟨z + 1, 0, none⟩ = some (.pointer none) ∧ w'.cell? ⟨b, off + k * 2, none⟩ = some (.int .i64 acts[k].1) ∧ w'.cell? ⟨b, off + k * 2 + 1, none⟩ = some (.int .i64 acts[k].2))
                (first | exact ⟨n0, e0, e1⟩ | (refine ⟨?_, ?_, ?_⟩ <;> assumption))
                (first | (go_at_call 23; refine HND.out.mono ?_; rintro e w' ⟨rfl, hb'⟩; have k0 := (Same.of_below hb').cell n0; have k1 := (Same.of_below hb').cell e0; have k2 := (Same.of_below hb').cell e1))
              have hQ4 := (HQ.out.drewN 1).grown hb'
              have hl23 := fun n => nlen_any (w'.drewN n) (.pointer none) (.inl rfl)
              have hi23 := fun n => nis_any (w'.drewN n) (.pointer none) (.inl rfl) acts[k].2 a1
              have HL23 := Lib.hid hl23
              have HI23 := Lib.hid hi23
              have HQ4 := Lib.hid hQ4
              clear hl23 hi23 hQ4 n0 e0 e1 hb'
              go_wp2
              go_quiet ((first | (go_at_call 27; exact quiet_left (HL23.out _)) | (go_at_call 28; exact quiet_left (HI23.out _))))
              go_wp2
              go_roundw
              case rel => exact ⟨0 + 1, by omega, by go_num, HQ4.out.drewN _⟩
              case measure => simp [intOf]
            · have HQ := Lib.hid hQ
              have hnd := ndo_any wr.drew (.pointer (some ⟨z, 0, none⟩)) ((hQ.drewN 1).nobody.2) acts[k].1 acts[k].2 a1
              have HND := Lib.hid hnd
              have n0 : wr.cell? ⟨z + 1, 1, none⟩ = some (.pointer (some ⟨z, 0, none⟩)) := cell_of hQ.hn rfl
              obtain ⟨b', off', hAA, hbl2, e0, e1, -, -⟩ := act_cells (HS.out.below hQ.below) hlt
              injection hAA with hAA
              injection hAA with hb1 hb2
              subst hb1
              subst hb2
              clear hQ hnd
              go_wp2
              go_region_held3 (fun w' => w'.cell? ⟨z + 1, 1, none⟩ = some (.pointer (some ⟨z, 0, none⟩)) ∧ w'.cell? ⟨b, off + k * 2, none⟩ = some (.int .i64 acts[k].1) ∧ w'.cell? ⟨b, off + k * 2 + 1, none⟩ = some (.int .i64 acts[k].2))
                (first | exact ⟨n0, e0, e1⟩ | (refine ⟨?_, ?_, ?_⟩ <;> assumption))
                (first | (go_at_call 23; refine HND.out.mono ?_; rintro e w' ⟨rfl, hb'⟩; have k0 := (Same.of_below hb').cell n0; have k1 := (Same.of_below hb').cell e0; have k2 := (Same.of_below hb').cell e1))
              have hQ4 := (HQ.out.drewN 1).grown hb'
              have hl23 := fun n => nlen_any (w'.drewN n) (.pointer (some ⟨z, 0, none⟩)) ((hQ4.drewN n).nobody.2)
              have hi23 := fun n => nis_any (w'.drewN n) (.pointer (some ⟨z, 0, none⟩)) ((hQ4.drewN n).nobody.2) acts[k].2 a1
              have HL23 := Lib.hid hl23
              have HI23 := Lib.hid hi23
              have HQ4 := Lib.hid hQ4
              clear hl23 hi23 hQ4 n0 e0 e1 hb'
              go_wp2
              go_quiet ((first | (go_at_call 27; exact quiet_left (HL23.out _)) | (go_at_call 28; exact quiet_left (HI23.out _))))
              go_wp2
              go_roundw
              case rel => exact ⟨1 + 1, by omega, by go_num, HQ4.out.drewN _⟩
              case measure => simp [intOf]
            · have HQ := Lib.hid hQ
              clear hQ
              go_wp2
              go_roundw
              case rel => exact ⟨k + 1, last', L', _, by omega, by go_num, HQ.out, hI', by omega⟩
              case measure => simp [intOf]; omega
        · rw [h1] at hr0
          rw [hr0] at hn3 hz3
          simp only at hn3 hz3
          subst hz3
          have HN := Lib.hid hn3
          have t1 : (acts[k].1 == 1) = false := by rw [h1]; rfl
          have t2 : (acts[k].1 == 2) = false := by rw [h1]; rfl
          have t3 : (acts[k].1 == 3) = true := by rw [h1]; rfl
          clear hn1 hn2 hn3 hz2 hr hr0 hP hI h1
          go_wp2_with fail
          (with_reducible refine HD.out.mono ?_)
          rintro e w1 ⟨rfl, hA1, hT1⟩
          have hR1 := HP.out.ref hT1
          obtain ⟨b', off', hAA, hbl2, d0, d1, -, -⟩ := act_cells (HS.out.below (HP.out.below.trans (hT1.below HP.out.below.size (by simp [hs0])))) hlt
          injection hAA with hAA
          injection hAA with hb1 hb2
          subst hb1
          subst hb2
          have HA1 := Lib.hid hA1
          have HT1 := Lib.hid hT1
          have HR1 := Lib.hid (HN.out w1 hR1)
          clear hA1 hT1 hR1 c0 c1
          go_wp2_with fail
          (with_reducible refine HR1.out.mono ?_)
          rintro e w2 ⟨rfl, v', hR2, hT2, hv2⟩
          have hQ := HP.out.acts hsz hs0 hm0 hsx HA1.out HT1.out hR2 hT2 hv2
          have HQ := Lib.hid hQ
          clear hR2 hT2 hv2 hQ
          clear d0 d1
          have hlen17 := fun n => len_any (w2.drewN n) _ _ M last' L' (HQ.out.a.drewN n)
          have his17 := fun n => is_any (w2.drewN n) _ _ M last' L' (HQ.out.a.drewN n) acts[k].2 a1
          have hris17 := fun n => ris_any (w2.drewN n) _ _ M last' L' (HQ.out.r.drewN n) acts[k].2
          have HL17 := Lib.hid hlen17
          have HI17 := Lib.hid his17
          have HR17 := Lib.hid hris17
          have d2 : w2.cell? ⟨sx, 2, none⟩ = some v' := cell_of HQ.out.r.st rfl
          obtain ⟨A', cc, rfl⟩ := own_form HQ.out.r.row
          obtain ⟨b', off', hAA, hbl2, e0, e1, -, -⟩ := act_cells (HS.out.below HQ.out.below) hlt
          injection hAA with hAA
          injection hAA with hb1 hb2
          subst hb1
          subst hb2
          clear hlen17 his17 hris17
          go_wp2
          go_quiet ((first | (go_at_call 27; exact quiet_left (HL17.out _)) | (go_at_call 28; exact quiet_left (HI17.out _)) | (go_at_call 29; exact quiet_left (HR17.out _))))
          have hq3 := HQ.out.drewN nq
          generalize w2.drewN nq = w3 at hq3 ⊢
          clear HL17 HI17 HR17 d2 e0 e1
          have HQ3 := Lib.hid hq3
          clear hq3
          go_wp2
          obtain ⟨wo, rfl⟩ : ∃ wo : World, wo = w3 := ⟨_, rfl⟩
          go_loopw [13] (fun x wr => ∃ j : Nat, j ≤ 2 ∧ x = .int .i64 j ∧ PI w s w.heap.size sx z (z + 1) M last' L' (.slice A' L'.length cc) wr) (fun x _ => 2 - (intOf x).toNat)
          case atStart => exact ⟨0, by omega, rfl, HQ3.out⟩
          case round =>
            obtain ⟨j, hj, rfl, hQ⟩ := hrel
            have hj3 : j = 0 ∨ j = 1 ∨ j = 2 := by omega
            rcases hj3 with rfl | rfl | rfl
            · have HQ := Lib.hid hQ
              have hnd := ndo_any wr.drew (.pointer none) (.inl rfl) acts[k].1 acts[k].2 a1
              have HND := Lib.hid hnd
              have n0 : wr.cell? ⟨z + 1, 0, none⟩ = some (.pointer none) := cell_of hQ.hn rfl
              obtain ⟨b', off', hAA, hbl2, e0, e1, -, -⟩ := act_cells (HS.out.below hQ.below) hlt
              injection hAA with hAA
              injection hAA with hb1 hb2
              subst hb1
              subst hb2
              clear hQ hnd
              go_wp2
              go_region_held3 (fun w' => w'.cell? ⟨z + 1, 0, none⟩ = some (.pointer none) ∧ w'.cell? ⟨b, off + k * 2, none⟩ = some (.int .i64 acts[k].1) ∧ w'.cell? ⟨b, off + k * 2 + 1, none⟩ = some (.int .i64 acts[k].2))
                (first | exact ⟨n0, e0, e1⟩ | (refine ⟨?_, ?_, ?_⟩ <;> assumption))
                (first | (go_at_call 23; refine HND.out.mono ?_; rintro e w' ⟨rfl, hb'⟩; have k0 := (Same.of_below hb').cell n0; have k1 := (Same.of_below hb').cell e0; have k2 := (Same.of_below hb').cell e1))
              have hQ4 := (HQ.out.drewN 1).grown hb'
              have hl23 := fun n => nlen_any (w'.drewN n) (.pointer none) (.inl rfl)
              have hi23 := fun n => nis_any (w'.drewN n) (.pointer none) (.inl rfl) acts[k].2 a1
              have HL23 := Lib.hid hl23
              have HI23 := Lib.hid hi23
              have HQ4 := Lib.hid hQ4
              clear hl23 hi23 hQ4 n0 e0 e1 hb'
              go_wp2
              go_quiet ((first | (go_at_call 27; exact quiet_left (HL23.out _)) | (go_at_call 28; exact quiet_left (HI23.out _))))
              go_wp2
              go_roundw
              case rel => exact ⟨0 + 1, by omega, by go_num, HQ4.out.drewN _⟩
              case measure => simp [intOf]
            · have HQ := Lib.hid hQ
              have hnd := ndo_any wr.drew (.pointer (some ⟨z, 0, none⟩)) ((hQ.drewN 1).nobody.2) acts[k].1 acts[k].2 a1
              have HND := Lib.hid hnd
              have n0 : wr.cell? ⟨z + 1, 1, none⟩ = some (.pointer (some ⟨z, 0, none⟩)) := cell_of hQ.hn rfl
              obtain ⟨b', off', hAA, hbl2, e0, e1, -, -⟩ := act_cells (HS.out.below hQ.below) hlt
              injection hAA with hAA
              injection hAA with hb1 hb2
              subst hb1
              subst hb2
              clear hQ hnd
              go_wp2
              go_region_held3 (fun w' => w'.cell? ⟨z + 1, 1, none⟩ = some (.pointer (some ⟨z, 0, none⟩)) ∧ w'.cell? ⟨b, off + k * 2, none⟩ = some (.int .i64 acts[k].1) ∧ w'.cell? ⟨b, off + k * 2 + 1, none⟩ = some (.int .i64 acts[k].2))
                (first | exact ⟨n0, e0, e1⟩ | (refine ⟨?_, ?_, ?_⟩ <;> assumption))
                (first | (go_at_call 23; refine HND.out.mono ?_; rintro e w' ⟨rfl, hb'⟩; have k0 := (Same.of_below hb').cell n0; have k1 := (Same.of_below hb').cell e0; have k2 := (Same.of_below hb').cell e1))
              have hQ4 := (HQ.out.drewN 1).grown hb'
              have hl23 := fun n => nlen_any (w'.drewN n) (.pointer (some ⟨z, 0, none⟩)) ((hQ4.drewN n).nobody.2)
              have hi23 := fun n => nis_any (w'.drewN n) (.pointer (some ⟨z, 0, none⟩)) ((hQ4.drewN n).nobody.2) acts[k].2 a1
              have HL23 := Lib.hid hl23
              have HI23 := Lib.hid hi23
              have HQ4 := Lib.hid hQ4
              clear hl23 hi23 hQ4 n0 e0 e1 hb'
              go_wp2
              go_quiet ((first | (go_at_call 27; exact quiet_left (HL23.out _)) | (go_at_call 28; exact quiet_left (HI23.out _))))
              go_wp2
              go_roundw
              case rel => exact ⟨1 + 1, by omega, by go_num, HQ4.out.drewN _⟩
              case measure => simp [intOf]
            · have HQ := Lib.hid hQ
              clear hQ
              go_wp2
              go_roundw
              case rel => exact ⟨k + 1, last', L', _, by omega, by go_num, HQ.out, hI', by omega⟩
              case measure => simp [intOf]; omega
        · have hr1 : pact M last L acts[k].1 acts[k].2 = ((0, false), last, L) := by
            unfold pact
            rw [if_neg h1.1, if_neg h1.2.1, if_neg h1.2.2]
          rw [hr1] at hr
          injection hr with hra hrb
          injection hra with hrc hrd
          injection hrb with hre hrf
          subst hrc
          subst hrd
          subst hre
          subst hrf
          have t1 : (acts[k].1 == 1) = false := beq_eq_false_iff_ne.2 h1.1
          have t2 : (acts[k].1 == 2) = false := beq_eq_false_iff_ne.2 h1.2.1
          have t3 : (acts[k].1 == 3) = false := beq_eq_false_iff_ne.2 h1.2.2
          clear hn1 hn2 hn3 hz2 hz3 hr0 hr1 hP hI h1
          go_wp2_with fail
          (with_reducible refine HD.out.mono ?_)
          rintro e w1 ⟨rfl, hA1, hT1⟩
          have hR1 := HP.out.ref hT1
          obtain ⟨b', off', hAA, hbl2, d0, d1, -, -⟩ := act_cells (HS.out.below (HP.out.below.trans (hT1.below HP.out.below.size (by simp [hs0])))) hlt
          injection hAA with hAA
          injection hAA with hb1 hb2
          subst hb1
          subst hb2
          have hQ := HP.out.acts hsz hs0 hm0 hsx hA1 hT1 hR1 (Tch.refl _ _) (fun g hg => .inl hg)
          have HQ := Lib.hid hQ
          clear hA1 hT1 hR1 hQ c0 c1
          obtain ⟨w2, rfl⟩ : ∃ w2 : World, w2 = w1 := ⟨_, rfl⟩
          have hlen17 := fun n => len_any (w2.drewN n) _ _ M last L (HQ.out.a.drewN n)
          have his17 := fun n => is_any (w2.drewN n) _ _ M last L (HQ.out.a.drewN n) acts[k].2 a1
          have hris17 := fun n => ris_any (w2.drewN n) _ _ M last L (HQ.out.r.drewN n) acts[k].2
          have HL17 := Lib.hid hlen17
          have HI17 := Lib.hid his17
          have HR17 := Lib.hid hris17
          clear d0 d1
          have d2 : w2.cell? ⟨sx, 2, none⟩ = some v := cell_of HQ.out.r.st rfl
          obtain ⟨A', cc, rfl⟩ := own_form HQ.out.r.row
          obtain ⟨b', off', hAA, hbl2, e0, e1, -, -⟩ := act_cells (HS.out.below HQ.out.below) hlt
          injection hAA with hAA
          injection hAA with hb1 hb2
          subst hb1
          subst hb2
          clear hlen17 his17 hris17
          go_wp2
          go_quiet ((first | (go_at_call 27; exact quiet_left (HL17.out _)) | (go_at_call 28; exact quiet_left (HI17.out _)) | (go_at_call 29; exact quiet_left (HR17.out _))))
          have hq3 := HQ.out.drewN nq
          generalize w2.drewN nq = w3 at hq3 ⊢
          clear HL17 HI17 HR17 d2 e0 e1
          have HQ3 := Lib.hid hq3
          clear hq3
          go_wp2
          obtain ⟨wo, rfl⟩ : ∃ wo : World, wo = w3 := ⟨_, rfl⟩
          go_loopw [13] (fun x wr => ∃ j : Nat, j ≤ 2 ∧ x = .int .i64 j ∧ PI w s w.heap.size sx z (z + 1) M last L (.slice A' L.length cc) wr) (fun x _ => 2 - (intOf x).toNat)
          case atStart => exact ⟨0, by omega, rfl, HQ3.out⟩
          case round =>
            obtain ⟨j, hj, rfl, hQ⟩ := hrel
            have hj3 : j = 0 ∨ j = 1 ∨ j = 2 := by omega
            rcases hj3 with rfl | rfl | rfl
            · have HQ := Lib.hid hQ
              have hnd := ndo_any wr.drew (.pointer none) (.inl rfl) acts[k].1 acts[k].2 a1
              have HND := Lib.hid hnd
              have n0 : wr.cell? ⟨z + 1, 0, none⟩ = some (.pointer none) := cell_of hQ.hn rfl
              obtain ⟨b', off', hAA, hbl2, e0, e1, -, -⟩ := act_cells (HS.out.below hQ.below) hlt
              injection hAA with hAA
              injection hAA with hb1 hb2
              subst hb1
              subst hb2
              clear hQ hnd
              go_wp2
              go_region_held3 (fun w' => w'.cell? ⟨z + 1, 0, none⟩ = some (.pointer none) ∧ w'.cell? ⟨b, off + k * 2, none⟩ = some (.int .i64 acts[k].1) ∧ w'.cell? ⟨b, off + k * 2 + 1, none⟩ = some (.int .i64 acts[k].2))
                (first | exact ⟨n0, e0, e1⟩ | (refine ⟨?_, ?_, ?_⟩ <;> assumption))
                (first | (go_at_call 23; refine HND.out.mono ?_; rintro e w' ⟨rfl, hb'⟩; have k0 := (Same.of_below hb').cell n0; have k1 := (Same.of_below hb').cell e0; have k2 := (Same.of_below hb').cell e1))
              have hQ4 := (HQ.out.drewN 1).grown hb'
              have hl23 := fun n => nlen_any (w'.drewN n) (.pointer none) (.inl rfl)
              have hi23 := fun n => nis_any (w'.drewN n) (.pointer none) (.inl rfl) acts[k].2 a1
              have HL23 := Lib.hid hl23
              have HI23 := Lib.hid hi23
              have HQ4 := Lib.hid hQ4
              clear hl23 hi23 hQ4 n0 e0 e1 hb'
              go_wp2
              go_quiet ((first | (go_at_call 27; exact quiet_left (HL23.out _)) | (go_at_call 28; exact quiet_left (HI23.out _))))
              go_wp2
              go_roundw
              case rel => exact ⟨0 + 1, by omega, by go_num, HQ4.out.drewN _⟩
              case measure => simp [intOf]
            · have HQ := Lib.hid hQ
              have hnd := ndo_any wr.drew (.pointer (some ⟨z, 0, none⟩)) ((hQ.drewN 1).nobody.2) acts[k].1 acts[k].2 a1
              have HND := Lib.hid hnd
              have n0 : wr.cell? ⟨z + 1, 1, none⟩ = some (.pointer (some ⟨z, 0, none⟩)) := cell_of hQ.hn rfl
              obtain ⟨b', off', hAA, hbl2, e0, e1, -, -⟩ := act_cells (HS.out.below hQ.below) hlt
              injection hAA with hAA
              injection hAA with hb1 hb2
              subst hb1
              subst hb2
              clear hQ hnd
              go_wp2
              go_region_held3 (fun w' => w'.cell? ⟨z + 1, 1, none⟩ = some (.pointer (some ⟨z, 0, none⟩)) ∧ w'.cell? ⟨b, off + k * 2, none⟩ = some (.int .i64 acts[k].1) ∧ w'.cell? ⟨b, off + k * 2 + 1, none⟩ = some (.int .i64 acts[k].2))
                (first | exact ⟨n0, e0, e1⟩ | (refine ⟨?_, ?_, ?_⟩ <;> assumption))
                (first | (go_at_call 23; refine HND.out.mono ?_; rintro e w' ⟨rfl, hb'⟩; have k0 := (Same.of_below hb').cell n0; have k1 := (Same.of_below hb').cell e0; have k2 := (Same.of_below hb').cell e1))
              have hQ4 := (HQ.out.drewN 1).grown hb'
              have hl23 := fun n => nlen_any (w'.drewN n) (.pointer (some ⟨z, 0, none⟩)) ((hQ4.drewN n).nobody.2)
              have hi23 := fun n => nis_any (w'.drewN n) (.pointer (some ⟨z, 0, none⟩)) ((hQ4.drewN n).nobody.2) acts[k].2 a1
              have HL23 := Lib.hid hl23
              have HI23 := Lib.hid hi23
              have HQ4 := Lib.hid hQ4
              clear hl23 hi23 hQ4 n0 e0 e1 hb'
              go_wp2
              go_quiet ((first | (go_at_call 27; exact quiet_left (HL23.out _)) | (go_at_call 28; exact quiet_left (HI23.out _))))
              go_wp2
              go_roundw
              case rel => exact ⟨1 + 1, by omega, by go_num, HQ4.out.drewN _⟩
              case measure => simp [intOf]
            · have HQ := Lib.hid hQ
              clear hQ
              go_wp2
              go_roundw
              case rel => exact ⟨k + 1, last, L, _, by omega, by go_num, HQ.out, hI', by omega⟩
              case measure => simp [intOf]; omega
      · obtain rfl : k = acts.length := by omega
        have HB := Lib.hid hP.below
        clear hP hI
        go_wp2_with fail
        refine (pawake_any _).mono ?_
        rintro e w' ⟨rfl, hb'⟩
        have HB' := Lib.hid hb'
        clear hb'
        go_wp2
        go_ret
        exact ⟨rfl, HB.out.trans (HB'.out.mono HB.out.size)⟩
  · go_enter Try.func6, Try.ntmps6
    go_wp2_with fail
    refine (pawake_any _).mono ?_
    rintro e w' ⟨rfl, hb⟩
    go_wp2
    go_ret
    exact ⟨rfl, hb⟩
end Go.Proofs.Ytapiaiobohkemaa.PidsW
