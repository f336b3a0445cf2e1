/- InPlays: its walk. Printed by gen_inplays.py, a program of this session. -/
import Derived.Test.YtapiaiobohkemaaInDo
import Derived.Deep.RegionHeld3
set_option linter.unusedVariables false
set_option linter.unusedSimpArgs false
namespace Go.Proofs.Ytapiaiobohkemaa.InW
open Go.RowKit Go.Proofs.Ytapiaiobohkemaa.Tc InPure

theorem quiet_left {P : Program} {f : FuncId} {args : Array Value} {w : World} {n : Nat} {v : Value}
    (h : Calls P f args (w.drewN n) fun e w' => e = .returned v ∧ w.drewN n = w') : Calls P f args (w.drewN n) fun e w'' => e = .returned v ∧ ∃ m, w'' = w.drewN m :=
  h.mono fun _ _ ⟨he, hm⟩ => ⟨he, n, hm.symm⟩

/-- All that the law keeps from round to round. -/
structure PI (B : World) (s m sx z zz nb : Nat) (most : Int) (L : List (Int × Int)) (v : Value) (w : World) : Prop where
  a : At w s m most L
  r : RAt w sx v most L
  hz : w.heap[z]? = some (.cells #[.int .i64 0, .slice none 0 0] 59 (0, 0))
  hzz : w.heap[zz]? = some (.cells #[.int .i64 0, .map none] 62 (0, 0))
  hn : w.heap[nb]? = some (.cells #[.pointer none, .pointer (some ⟨zz, 0, none⟩)] 54 (0, 0))
  below : Below B.heap.size B w
  own : ∀ g, v.ownBlock = some g → B.heap.size ≤ g
variable {B : World} {s m sx z zz nb : Nat} {most : Int} {L : List (Int × Int)} {v : Value} {w w' : World}
theorem PI.drewN (h : PI B s m sx z zz nb most L v w) (n : Nat) : PI B s m sx z zz nb most L v (w.drewN n) :=
  ⟨h.a.drewN n, h.r.drewN n, h.hz, h.hzz, h.hn, below_drewN h.below n, h.own⟩
theorem PI.grown (h : PI B s m sx z zz nb most L v w) (hb : Below w.heap.size w w') : PI B s m sx z zz nb most L v w' := by
  have ht : Tch [] w w' := Tch.of_below hb
  exact ⟨h.a.kept ht (by simp) (by simp), h.r.kept ht (by simp) (by simp), (ht.block _ (lt_of_block h.hz) (by simp)).trans h.hz, (ht.block _ (lt_of_block h.hzz) (by simp)).trans h.hzz, (ht.block _ (lt_of_block h.hn) (by simp)).trans h.hn, h.below.trans (hb.mono h.below.size), h.own⟩
/-- What both objects' acts leave. -/
theorem PI.acts {w1 w2 : World} {L' : List (Int × Int)} {v' : Value} (h : PI B s m sx z zz nb most L v w)
    (hsz : s ≠ zz) (hxz : sx ≠ z) (hm : B.heap.size ≤ m) (hx : B.heap.size ≤ sx)
    (hA : At w1 s m most L') (hT : Tch [m] w w1) (hR : RAt w2 sx v' most L') (hT2 : Tch (sx :: v.ownBlock.toList) w1 w2) (hv : ∀ g, v'.ownBlock = some g → v.ownBlock = some g ∨ w1.heap.size ≤ g) :
    PI B s m sx z zz nb most L' v' w2 ∧ ∀ (b : Nat) (c : Array Value), w.heap[b]? = some (Obj.cells c 65 (0, 0)) → w2.heap[b]? = some (Obj.cells c 65 (0, 0)) := by
  obtain ⟨es, k, hmap⟩ := h.a.mp.block
  have own_ne : ∀ {b : Nat} {c : Array Value} {t : TypeId}, w.heap[b]? = some (.cells c t (0, 0)) → 90 ≠ t → b ∉ v.ownBlock.toList := by
    intro b c t hb ht hin
    exact own_type_ne h.r.row hb ht b (by simpa using hin) rfl
  have s_sx : s ≠ sx := type_ne h.a.st h.r.st (by decide)
  have m_sx : m ≠ sx := (map_ne h.r.st hmap).symm
  have m_own : m ∉ v.ownBlock.toList := by
    intro hin
    exact own_map_ne h.r.row hmap m (by simpa using hin) rfl
  have keep : ∀ {b : Nat} {o : Obj}, w.heap[b]? = some o → b ≠ m → b ≠ sx → b ∉ v.ownBlock.toList → w2.heap[b]? = some o := by
    intro b o hb h2 h3 h4
    have hlt := lt_of_block hb
    rw [hT2.block b (Nat.lt_of_lt_of_le hlt hT.size) (by simp only [List.mem_cons]; exact fun hh => hh.elim h3 h4), hT.block b hlt (by simp [h2])]
    exact hb
  refine ⟨⟨hA.kept hT2 ?_ ?_, hR, keep h.hz (map_ne h.hz hmap) (Ne.symm hxz) (own_ne h.hz (by decide)), keep h.hzz (map_ne h.hzz hmap) (type_ne h.hzz h.r.st (by decide)) (own_ne h.hzz (by decide)),
    keep h.hn (map_ne h.hn hmap) (type_ne h.hn h.r.st (by decide)) (own_ne h.hn (by decide)), ?_, ?_⟩, fun b c hb => keep hb (map_ne hb hmap) (type_ne hb h.r.st (by decide)) (own_ne hb (by decide))⟩
  · simp only [List.mem_cons]
    exact fun hh => hh.elim s_sx (own_ne h.a.st (by decide))
  · simp only [List.mem_cons]
    exact fun hh => hh.elim m_sx m_own
  · have b1 := h.below.trans (hT.below h.below.size (by simp [hm]))
    refine b1.trans (hT2.below b1.size ?_)
    intro i hi
    rcases List.mem_cons.1 hi with rfl | hi
    · exact hx
    · exact h.own i (by simpa using hi)
  · intro g hg
    rcases hv g hg with h1 | h1
    · exact h.own g h1
    · exact Nat.le_trans (Nat.le_trans h.below.size hT.size) h1
/-- The reference's object behind the program's act. -/
theorem PI.ref {w1 : World} (h : PI B s m sx z zz nb most L v w) (hT : Tch [m] w w1) : RAt w1 sx v most L := by
  obtain ⟨es, k, hmap⟩ := h.a.mp.block
  refine h.r.kept hT ?_ ?_
  · simp only [List.mem_cons, List.not_mem_nil, or_false]
    exact map_ne h.r.st hmap
  · intro g hg
    simp only [List.mem_cons, List.not_mem_nil, or_false]
    exact own_map_ne h.r.row hmap g hg
theorem PI.nobody (h : PI B s m sx z zz nb most L v w) : Nobody w (.pointer none) ∧ Nobody w (.pointer (some ⟨zz, 0, none⟩)) :=
  ⟨.inl rfl, .inr ⟨zz, rfl, h.hzz⟩⟩
theorem kept65 {S : List Nat} {b : Nat} {c : Array Value} (hT : Tch S w w') (hb : w.heap[b]? = some (.cells c 65 (0, 0))) (hS : b ∉ S) : w'.heap[b]? = some (.cells c 65 (0, 0)) := (hT.block b (lt_of_block hb) hS).trans hb
theorem act1 (L : List (Int × Int)) (i q : Int) : act most L 1 i q = (((take most L i q).1, false), (take most L i q).2) := by unfold act; rw [if_pos rfl]
theorem act2 (L : List (Int × Int)) (i q : Int) : act most L 2 i q = ((0, decide (getQ L i ≠ 0)), del L i) := by unfold act; rw [if_neg (by decide), if_pos rfl]
theorem act3 (L : List (Int × Int)) (i q : Int) : act most L 3 i q = ((0, decide (getQ L i = 2)), if getQ L i = 2 then del L i else L) := by
  unfold act
  rw [if_neg (by decide), if_neg (by decide), if_pos rfl]
  split <;> simp [*]
theorem act0 (L : List (Int × Int)) (k i q : Int) (h1 : k ≠ 1) (h2 : k ≠ 2) (h3 : k ≠ 3) : act most L k i q = ((0, false), L) := by
  unfold act
  rw [if_neg h1, if_neg h2, if_neg h3]

set_option maxHeartbeats 8000000 in
set_option maxRecDepth 100000 in
theorem plays_law (w : World) (most : Int) (A : Option Addr) (len cap : Nat) (acts : List (Int × Int × Int)) (hm : (Lit.int .i64 most).wf = true) (hl : acts.length = len ∧ SliceIs kAct w A acts) :
    Calls Try.prog 9 #[.int .i64 most, .slice A len cap] w fun e w' => e = .returned (.bool true) ∧ Below w.heap.size w w' := by
  obtain ⟨rfl, hS⟩ := hl
  have hlen := hS.len
  unfold maxLen at hlen
  by_cases h60 : acts.length ≤ 60
  · have HS := Lib.hid hS
    clear hS hm
    go_enter Try.func9, Try.ntmps9
    go_wp2_with fail
    refine (new_any _ most).mono ?_
    rintro e w1 ⟨rfl, hA, hB⟩
    have hs0 : w.heap.size < w.heap.size + 1 := by omega
    have hsx := hB.size
    have hslt := lt_of_block hA.st
    have hP0 : PI w (w.heap.size + 1) w.heap.size w1.heap.size (w1.heap.size + 1) (w1.heap.size + 1 + 1) (w1.heap.size + 1 + 1 + 1) most [] (.slice none 0 0)
        ((((w1.alloc (.cells #[.int .i64 most, .slice none 0 0] 59)).alloc (.cells #[.int .i64 0, .slice none 0 0] 59)).alloc (.cells #[.int .i64 0, .map none] 62)).alloc (.cells #[.pointer none, .pointer (some ⟨w1.heap.size + 1 + 1, 0, none⟩)] 54)) := by
      have hT : Tch [] w1 ((((w1.alloc (.cells #[.int .i64 most, .slice none 0 0] 59)).alloc (.cells #[.int .i64 0, .slice none 0 0] 59)).alloc (.cells #[.int .i64 0, .map none] 62)).alloc (.cells #[.pointer none, .pointer (some ⟨w1.heap.size + 1 + 1, 0, none⟩)] 54)) := ((((Tch.refl _ _).alloc _).alloc _).alloc _).alloc _
      refine ⟨hA.kept hT (by simp) (by simp), ⟨?_, own_nil _ _ _⟩, ?_, ?_, ?_, hB.trans (hT.below hB.size (by simp)), by simp [Value.ownBlock]⟩
      · exact (Below.heap_alloc _ _ _ (by simp; omega)).trans ((Below.heap_alloc _ _ _ (by simp; omega)).trans ((Below.heap_alloc _ _ _ (by simp)).trans (heap_alloc_new w1 _)))
      · have := heap_alloc_new (w1.alloc (.cells #[.int .i64 most, .slice none 0 0] 59)) (.cells #[.int .i64 0, .slice none 0 0] 59)
        exact (Below.heap_alloc _ _ _ (by simp)).trans ((Below.heap_alloc _ _ _ (by simp)).trans (by simpa using this))
      · have := heap_alloc_new ((w1.alloc (.cells #[.int .i64 most, .slice none 0 0] 59)).alloc (.cells #[.int .i64 0, .slice none 0 0] 59)) (.cells #[.int .i64 0, .map none] 62)
        exact (Below.heap_alloc _ _ _ (by simp)).trans (by simpa using this)
      · have := heap_alloc_new (((w1.alloc (.cells #[.int .i64 most, .slice none 0 0] 59)).alloc (.cells #[.int .i64 0, .slice none 0 0] 59)).alloc (.cells #[.int .i64 0, .map none] 62)) (.cells #[.pointer none, .pointer (some ⟨w1.heap.size + 1 + 1, 0, none⟩)] 54)
        simpa using this
    have I0 : Inv [] := ⟨by simp, by simp⟩
    have HP0 := Lib.hid hP0
    clear hP0 hA hB
    go_wp2
    generalize hge : w.heap.size + 1 = s at *
    have hsz : s ≠ w1.heap.size + 1 + 1 := by omega
    generalize w1.heap.size = sx at *
    have hxz : sx ≠ sx + 1 := by omega
    go_loopw [9] (fun x wr => ∃ (k : Nat) (L : List (Int × Int)) (v : Value), k ≤ acts.length ∧ x = .int .i64 k ∧ PI w s w.heap.size sx (sx + 1) (sx + 1 + 1) (sx + 1 + 1 + 1) most L v wr ∧ Inv L ∧ L.length ≤ k) (fun x _ => acts.length - (intOf x).toNat)
    case atStart => exact ⟨0, [], _, by omega, rfl, HP0.out, I0, by simp⟩
    case round =>
      obtain ⟨k, L, v, hk, rfl, hP, hI, hL⟩ := hrel
      clear HP0 I0
      by_cases hlt : k < acts.length
      · obtain ⟨b, off, rfl, hbl, c0, c1, c2, a0, a1, a2⟩ := act_cells (HS.out.below hP.below) hlt
        have hBA : Below wr.heap.size wr (wr.alloc (.cells #[.int .i64 acts[k].1, .int .i64 acts[k].2.1, .int .i64 acts[k].2.2] 65)) := (Below.refl _ _).alloc (Nat.le_refl _) _
        have hPA := hP.grown hBA
        have hla0 := heap_alloc_new wr (.cells #[.int .i64 acts[k].1, .int .i64 acts[k].2.1, .int .i64 acts[k].2.2] 65)
        have hmlt : w.heap.size < wr.heap.size := hP.a.mp.lt
        have hdo := do_any _ _ _ most L hPA.a hI (by omega) acts[k].1 acts[k].2.1 acts[k].2.2 a1
        have hI' := act_inv (most := most) hI acts[k].1 acts[k].2.1 acts[k].2.2
        have hL' := act_len most L acts[k].1 acts[k].2.1 acts[k].2.2
        generalize hwA : (wr.alloc (.cells #[.int .i64 acts[k].1, .int .i64 acts[k].2.1, .int .i64 acts[k].2.2] 65)) = wA at hdo hla0 hPA
        have HWA := Lib.hid hwA
        have HPA := Lib.hid hPA
        have HLA0 := Lib.hid hla0
        have hn1 := fun W h => rtake_any W sx v most L h hI (by omega) acts[k].2.1 acts[k].2.2
        have hn2 := fun W h => rdone_any W sx v most L h hI (by omega) acts[k].2.1
        have hn3 := fun W h => rrelease_any W sx v most L h hI (by omega) acts[k].2.1
        have hz1 := fun W h => rtake_zero W (sx + 1) h acts[k].2.1 acts[k].2.2
        have hnd := fun W p h => ndo_any W p h acts[k].1 acts[k].2.1 acts[k].2.2 a1
        clear hwA hla0 hP hPA hBA
        have h4 : acts[k].1 = 1 ∨ acts[k].1 = 2 ∨ acts[k].1 = 3 ∨ (acts[k].1 ≠ 1 ∧ acts[k].1 ≠ 2 ∧ acts[k].1 ≠ 3) := by omega
        generalize hkd : acts[k].1 = kd at *
        generalize hid : acts[k].2.1 = id at *
        generalize hqq : acts[k].2.2 = q at *
        generalize hnq : nq q = nn at *
        have HKD := Lib.hid hkd
        have HID := Lib.hid hid
        have HQQ := Lib.hid hqq
        clear hkd hid hqq hnq
        rcases h4 with rfl | rfl | rfl | h4
        · rw [act1] at hdo hI' hL'
          simp only [if_pos] at hnd
          generalize take most L id q = t at *
          obtain ⟨tn, L'⟩ := t
          simp only at hdo hI' hL' hn1
          have HN := Lib.hid hn1
          have HZ := Lib.hid hz1
          have HD := Lib.hid hdo
          have HND := Lib.hid hnd
          clear hdo hnd hI hn1 hn2 hn3 hz1
          go_wp2_with fail
          rw [HWA.out]
          (with_reducible refine HD.out.mono ?_)
          rintro e w1 ⟨rfl, hA1, hT1⟩
          have hR1 := HPA.out.ref hT1
          have hla1 := kept65 hT1 HLA0.out (by simp; omega)
          have d0 : w1.cell? ⟨wr.heap.size, 0, none⟩ = some (.int .i64 1) := cell_of hla1 rfl
          have d1 : w1.cell? ⟨wr.heap.size, 1, none⟩ = some (.int .i64 id) := cell_of hla1 rfl
          have d2 : w1.cell? ⟨wr.heap.size, 2, none⟩ = some (.int .i64 q) := cell_of hla1 rfl
          have HR1 := Lib.hid (HN.out w1 hR1)
          have HA1 := Lib.hid hA1
          have HT1 := Lib.hid hT1
          clear hA1 hT1 hR1 hla1 c0 c1 c2
          go_wp2_with fail
          (with_reducible refine HR1.out.mono ?_)
          rintro e w2 ⟨rfl, v', hR2, hT2, hv2⟩
          obtain ⟨hQ, hkk⟩ := HPA.out.acts hsz hxz (Nat.le_refl _) hsx HA1.out HT1.out hR2 hT2 hv2
          have hla2 := hkk _ _ HLA0.out
          have HQ := Lib.hid hQ
          have HLA2 := Lib.hid hla2
          clear hR2 hT2 hv2 hQ hkk d0 d1 d2
          have HZ1 := Lib.hid (HZ.out w2 HQ.out.hz)
          have e1 : w2.cell? ⟨wr.heap.size, 1, none⟩ = some (.int .i64 id) := cell_of hla2 rfl
          have e2 : w2.cell? ⟨wr.heap.size, 2, none⟩ = some (.int .i64 q) := cell_of hla2 rfl
          clear hla2
          go_wp2_with fail
          (with_reducible refine HZ1.out.mono ?_)
          rintro e w2b ⟨rfl, nz, rfl⟩
          have hQz := HQ.out.drewN nz
          have hlz : (w2.drewN nz).heap[wr.heap.size]? = _ := HLA2.out
          clear HQ HLA2 HZ1 e1 e2
          generalize w2.drewN nz = w2 at *
          have HQ := Lib.hid hQz
          have HLA2 := Lib.hid hlz
          clear hQz hlz
          have hlen17 := fun n => len_any (w2.drewN n) _ _ most L' (HQ.out.a.drewN n)
          have HL17 := Lib.hid hlen17
          have d2 : w2.cell? ⟨sx, 1, none⟩ = some v' := cell_of HQ.out.r.st rfl
          obtain ⟨A', cc, rfl⟩ := own_form HQ.out.r.row
          clear hlen17
          go_wp2
          go_quiet ((go_at_call 38; exact quiet_left (HL17.out _)))
          have hq3 := HQ.out.drewN nq
          have hl3 : (w2.drewN nq).heap[wr.heap.size]? = _ := HLA2.out
          generalize w2.drewN nq = w3 at hq3 hl3 ⊢
          clear HL17 d2 HLA2 HQ
          have HQ3 := Lib.hid hq3
          have HL3 := Lib.hid hl3
          clear hq3 hl3
          go_wp2
          generalize wr.heap.size = la at *
          obtain ⟨wo, rfl⟩ : ∃ wo : World, wo = w3 := ⟨_, rfl⟩
          go_loopw [16] (fun x wr => ∃ j : Nat, j ≤ 2 ∧ x = .int .i64 j ∧ PI w s w.heap.size sx (sx + 1) (sx + 1 + 1) (sx + 1 + 1 + 1) most L' (.slice A' L'.length cc) wr ∧ wr.heap[la]? = some (.cells #[.int .i64 1, .int .i64 id, .int .i64 q] 65 (0, 0))) (fun x _ => 2 - (intOf x).toNat)
          case atStart => exact ⟨0, by omega, rfl, HQ3.out, HL3.out⟩
          case round =>
            obtain ⟨j, hj, rfl, hQ, hla⟩ := hrel
            have hj3 : j = 0 ∨ j = 1 ∨ j = 2 := by omega
            rcases hj3 with rfl | rfl | rfl
            · have HQ := Lib.hid hQ
              have HLA := Lib.hid hla
              have HNDD := Lib.hid (HND.out wr.drew (.pointer none) (.inl rfl))
              have n0 : wr.cell? ⟨sx + 1 + 1 + 1, 0, none⟩ = some (.pointer none) := cell_of hQ.hn rfl
              have e0 : wr.cell? ⟨la, 0, none⟩ = some (.int .i64 1) := cell_of hla rfl
              have e1 : wr.cell? ⟨la, 1, none⟩ = some (.int .i64 id) := cell_of hla rfl
              have e2 : wr.cell? ⟨la, 2, none⟩ = some (.int .i64 q) := cell_of hla rfl
              clear hQ hla
              go_wp2
              go_region_held3 (fun w' => w'.cell? ⟨sx + 1 + 1 + 1, 0, none⟩ = some (.pointer none) ∧ w'.cell? ⟨la, 0, none⟩ = some (.int .i64 1) ∧ w'.cell? ⟨la, 1, none⟩ = some (.int .i64 id) ∧ w'.cell? ⟨la, 2, none⟩ = some (.int .i64 q))
                (first | exact ⟨n0, e0, e1, e2⟩ | (refine ⟨?_, ?_, ?_, ?_⟩ <;> assumption))
                (first | (go_at_call 34; refine HNDD.out.mono ?_; rintro e w' ⟨rfl, hb'⟩; have k0 := (Same.of_below hb').cell n0; have k1 := (Same.of_below hb').cell e0; have k2 := (Same.of_below hb').cell e1; have k3 := (Same.of_below hb').cell e2))
              have hQ4 := (HQ.out.drewN 1).grown hb'
              have hla4 : w'.heap[la]? = _ := (hb'.block la (lt_of_block HLA.out)).trans HLA.out
              have HL23 := Lib.hid (nlen_any w' (.pointer none) (.inl rfl))
              have n4 : w'.cell? ⟨sx + 1 + 1 + 1, 0, none⟩ = some (.pointer none) := cell_of hQ4.hn rfl
              have HQ4 := Lib.hid hQ4
              have HLA4 := Lib.hid hla4
              clear hQ4 hla4 n0 e0 e1 e2 hb'
              go_wp2_with (go_at_call 38; refine HL23.out.mono ?_; rintro e w5 ⟨rfl, rfl⟩)
              go_roundw
              case rel => exact ⟨0 + 1, by omega, by go_num, HQ4.out, HLA4.out⟩
              case measure => simp [intOf]
            · have HQ := Lib.hid hQ
              have HLA := Lib.hid hla
              have HNDD := Lib.hid (HND.out wr.drew (.pointer (some ⟨sx + 1 + 1, 0, none⟩)) ((hQ.drewN 1).nobody.2))
              have n0 : wr.cell? ⟨sx + 1 + 1 + 1, 1, none⟩ = some (.pointer (some ⟨sx + 1 + 1, 0, none⟩)) := cell_of hQ.hn rfl
              have e0 : wr.cell? ⟨la, 0, none⟩ = some (.int .i64 1) := cell_of hla rfl
              have e1 : wr.cell? ⟨la, 1, none⟩ = some (.int .i64 id) := cell_of hla rfl
              have e2 : wr.cell? ⟨la, 2, none⟩ = some (.int .i64 q) := cell_of hla rfl
              clear hQ hla
              go_wp2
              go_region_held3 (fun w' => w'.cell? ⟨sx + 1 + 1 + 1, 1, none⟩ = some (.pointer (some ⟨sx + 1 + 1, 0, none⟩)) ∧ w'.cell? ⟨la, 0, none⟩ = some (.int .i64 1) ∧ w'.cell? ⟨la, 1, none⟩ = some (.int .i64 id) ∧ w'.cell? ⟨la, 2, none⟩ = some (.int .i64 q))
                (first | exact ⟨n0, e0, e1, e2⟩ | (refine ⟨?_, ?_, ?_, ?_⟩ <;> assumption))
                (first | (go_at_call 34; refine HNDD.out.mono ?_; rintro e w' ⟨rfl, hb'⟩; have k0 := (Same.of_below hb').cell n0; have k1 := (Same.of_below hb').cell e0; have k2 := (Same.of_below hb').cell e1; have k3 := (Same.of_below hb').cell e2))
              have hQ4 := (HQ.out.drewN 1).grown hb'
              have hla4 : w'.heap[la]? = _ := (hb'.block la (lt_of_block HLA.out)).trans HLA.out
              have HL23 := Lib.hid (nlen_any w' (.pointer (some ⟨sx + 1 + 1, 0, none⟩)) (hQ4.nobody.2))
              have n4 : w'.cell? ⟨sx + 1 + 1 + 1, 1, none⟩ = some (.pointer (some ⟨sx + 1 + 1, 0, none⟩)) := cell_of hQ4.hn rfl
              have HQ4 := Lib.hid hQ4
              have HLA4 := Lib.hid hla4
              clear hQ4 hla4 n0 e0 e1 e2 hb'
              go_wp2_with (go_at_call 38; refine HL23.out.mono ?_; rintro e w5 ⟨rfl, rfl⟩)
              go_roundw
              case rel => exact ⟨1 + 1, by omega, by go_num, HQ4.out, HLA4.out⟩
              case measure => simp [intOf]
            · have HQ := Lib.hid hQ
              clear hQ hla
              go_wp2
              go_roundw
              case rel => exact ⟨k + 1, L', _, by omega, by go_num, HQ.out, hI', by omega⟩
              case measure => simp [intOf]; omega
        · rw [act2] at hdo hI' hL'
          simp only [if_neg (show ¬ (2 : Int) = 1 by decide)] at hnd
          generalize decide (getQ L id ≠ 0) = ok at *
          generalize del L id = L' at *
          simp only at hdo hI' hL' hn2
          have HN := Lib.hid hn2
          have HD := Lib.hid hdo
          have HND := Lib.hid hnd
          clear hdo hnd hI hn1 hn2 hn3 hz1
          go_wp2_with fail
          rw [HWA.out]
          (with_reducible refine HD.out.mono ?_)
          rintro e w1 ⟨rfl, hA1, hT1⟩
          have hR1 := HPA.out.ref hT1
          have hla1 := kept65 hT1 HLA0.out (by simp; omega)
          have d0 : w1.cell? ⟨wr.heap.size, 0, none⟩ = some (.int .i64 2) := cell_of hla1 rfl
          have d1 : w1.cell? ⟨wr.heap.size, 1, none⟩ = some (.int .i64 id) := cell_of hla1 rfl
          have d2 : w1.cell? ⟨wr.heap.size, 2, none⟩ = some (.int .i64 q) := cell_of hla1 rfl
          have HR1 := Lib.hid (HN.out w1 hR1)
          have HA1 := Lib.hid hA1
          have HT1 := Lib.hid hT1
          clear hA1 hT1 hR1 hla1 c0 c1 c2
          go_wp2_with fail
          (with_reducible refine HR1.out.mono ?_)
          rintro e w2 ⟨rfl, v', hR2, hT2, hv2⟩
          obtain ⟨hQ, hkk⟩ := HPA.out.acts hsz hxz (Nat.le_refl _) hsx HA1.out HT1.out hR2 hT2 hv2
          have hla2 := hkk _ _ HLA0.out
          have HQ := Lib.hid hQ
          have HLA2 := Lib.hid hla2
          clear hR2 hT2 hv2 hQ hkk d0 d1 d2
          clear hla2
          have hlen17 := fun n => len_any (w2.drewN n) _ _ most L' (HQ.out.a.drewN n)
          have HL17 := Lib.hid hlen17
          have d2 : w2.cell? ⟨sx, 1, none⟩ = some v' := cell_of HQ.out.r.st rfl
          obtain ⟨A', cc, rfl⟩ := own_form HQ.out.r.row
          clear hlen17
          go_wp2
          go_quiet ((go_at_call 38; exact quiet_left (HL17.out _)))
          have hq3 := HQ.out.drewN nq
          have hl3 : (w2.drewN nq).heap[wr.heap.size]? = _ := HLA2.out
          generalize w2.drewN nq = w3 at hq3 hl3 ⊢
          clear HL17 d2 HLA2 HQ
          have HQ3 := Lib.hid hq3
          have HL3 := Lib.hid hl3
          clear hq3 hl3
          go_wp2
          generalize wr.heap.size = la at *
          obtain ⟨wo, rfl⟩ : ∃ wo : World, wo = w3 := ⟨_, rfl⟩
          go_loopw [16] (fun x wr => ∃ j : Nat, j ≤ 2 ∧ x = .int .i64 j ∧ PI w s w.heap.size sx (sx + 1) (sx + 1 + 1) (sx + 1 + 1 + 1) most L' (.slice A' L'.length cc) wr ∧ wr.heap[la]? = some (.cells #[.int .i64 2, .int .i64 id, .int .i64 q] 65 (0, 0))) (fun x _ => 2 - (intOf x).toNat)
          case atStart => exact ⟨0, by omega, rfl, HQ3.out, HL3.out⟩
          case round =>
            obtain ⟨j, hj, rfl, hQ, hla⟩ := hrel
            have hj3 : j = 0 ∨ j = 1 ∨ j = 2 := by omega
            rcases hj3 with rfl | rfl | rfl
            · have HQ := Lib.hid hQ
              have HLA := Lib.hid hla
              have HNDD := Lib.hid (HND.out wr.drew (.pointer none) (.inl rfl))
              have n0 : wr.cell? ⟨sx + 1 + 1 + 1, 0, none⟩ = some (.pointer none) := cell_of hQ.hn rfl
              have e0 : wr.cell? ⟨la, 0, none⟩ = some (.int .i64 2) := cell_of hla rfl
              have e1 : wr.cell? ⟨la, 1, none⟩ = some (.int .i64 id) := cell_of hla rfl
              have e2 : wr.cell? ⟨la, 2, none⟩ = some (.int .i64 q) := cell_of hla rfl
              clear hQ hla
              go_wp2
              go_region_held3 (fun w' => w'.cell? ⟨sx + 1 + 1 + 1, 0, none⟩ = some (.pointer none) ∧ w'.cell? ⟨la, 0, none⟩ = some (.int .i64 2) ∧ w'.cell? ⟨la, 1, none⟩ = some (.int .i64 id) ∧ w'.cell? ⟨la, 2, none⟩ = some (.int .i64 q))
                (first | exact ⟨n0, e0, e1, e2⟩ | (refine ⟨?_, ?_, ?_, ?_⟩ <;> assumption))
                (first | (go_at_call 34; refine HNDD.out.mono ?_; rintro e w' ⟨rfl, hb'⟩; have k0 := (Same.of_below hb').cell n0; have k1 := (Same.of_below hb').cell e0; have k2 := (Same.of_below hb').cell e1; have k3 := (Same.of_below hb').cell e2))
              have hQ4 := (HQ.out.drewN 1).grown hb'
              have hla4 : w'.heap[la]? = _ := (hb'.block la (lt_of_block HLA.out)).trans HLA.out
              have HL23 := Lib.hid (nlen_any w' (.pointer none) (.inl rfl))
              have n4 : w'.cell? ⟨sx + 1 + 1 + 1, 0, none⟩ = some (.pointer none) := cell_of hQ4.hn rfl
              have HQ4 := Lib.hid hQ4
              have HLA4 := Lib.hid hla4
              clear hQ4 hla4 n0 e0 e1 e2 hb'
              go_wp2_with (go_at_call 38; refine HL23.out.mono ?_; rintro e w5 ⟨rfl, rfl⟩)
              go_roundw
              case rel => exact ⟨0 + 1, by omega, by go_num, HQ4.out, HLA4.out⟩
              case measure => simp [intOf]
            · have HQ := Lib.hid hQ
              have HLA := Lib.hid hla
              have HNDD := Lib.hid (HND.out wr.drew (.pointer (some ⟨sx + 1 + 1, 0, none⟩)) ((hQ.drewN 1).nobody.2))
              have n0 : wr.cell? ⟨sx + 1 + 1 + 1, 1, none⟩ = some (.pointer (some ⟨sx + 1 + 1, 0, none⟩)) := cell_of hQ.hn rfl
              have e0 : wr.cell? ⟨la, 0, none⟩ = some (.int .i64 2) := cell_of hla rfl
              have e1 : wr.cell? ⟨la, 1, none⟩ = some (.int .i64 id) := cell_of hla rfl
              have e2 : wr.cell? ⟨la, 2, none⟩ = some (.int .i64 q) := cell_of hla rfl
              clear hQ hla
              go_wp2
              go_region_held3 (fun w' => w'.cell? ⟨sx + 1 + 1 + 1, 1, none⟩ = some (.pointer (some ⟨sx + 1 + 1, 0, none⟩)) ∧ w'.cell? ⟨la, 0, none⟩ = some (.int .i64 2) ∧ w'.cell? ⟨la, 1, none⟩ = some (.int .i64 id) ∧ w'.cell? ⟨la, 2, none⟩ = some (.int .i64 q))
                (first | exact ⟨n0, e0, e1, e2⟩ | (refine ⟨?_, ?_, ?_, ?_⟩ <;> assumption))
                (first | (go_at_call 34; refine HNDD.out.mono ?_; rintro e w' ⟨rfl, hb'⟩; have k0 := (Same.of_below hb').cell n0; have k1 := (Same.of_below hb').cell e0; have k2 := (Same.of_below hb').cell e1; have k3 := (Same.of_below hb').cell e2))
              have hQ4 := (HQ.out.drewN 1).grown hb'
              have hla4 : w'.heap[la]? = _ := (hb'.block la (lt_of_block HLA.out)).trans HLA.out
              have HL23 := Lib.hid (nlen_any w' (.pointer (some ⟨sx + 1 + 1, 0, none⟩)) (hQ4.nobody.2))
              have n4 : w'.cell? ⟨sx + 1 + 1 + 1, 1, none⟩ = some (.pointer (some ⟨sx + 1 + 1, 0, none⟩)) := cell_of hQ4.hn rfl
              have HQ4 := Lib.hid hQ4
              have HLA4 := Lib.hid hla4
              clear hQ4 hla4 n0 e0 e1 e2 hb'
              go_wp2_with (go_at_call 38; refine HL23.out.mono ?_; rintro e w5 ⟨rfl, rfl⟩)
              go_roundw
              case rel => exact ⟨1 + 1, by omega, by go_num, HQ4.out, HLA4.out⟩
              case measure => simp [intOf]
            · have HQ := Lib.hid hQ
              clear hQ hla
              go_wp2
              go_roundw
              case rel => exact ⟨k + 1, L', _, by omega, by go_num, HQ.out, hI', by omega⟩
              case measure => simp [intOf]; omega
        · rw [act3] at hdo hI' hL'
          simp only [if_neg (show ¬ (3 : Int) = 1 by decide)] at hnd
          generalize decide (getQ L id = 2) = ok at *
          generalize (if getQ L id = 2 then del L id else L) = L' at *
          simp only at hdo hI' hL' hn3
          have HN := Lib.hid hn3
          have HD := Lib.hid hdo
          have HND := Lib.hid hnd
          clear hdo hnd hI hn1 hn2 hn3 hz1
          go_wp2_with fail
          rw [HWA.out]
          (with_reducible refine HD.out.mono ?_)
          rintro e w1 ⟨rfl, hA1, hT1⟩
          have hR1 := HPA.out.ref hT1
          have hla1 := kept65 hT1 HLA0.out (by simp; omega)
          have d0 : w1.cell? ⟨wr.heap.size, 0, none⟩ = some (.int .i64 3) := cell_of hla1 rfl
          have d1 : w1.cell? ⟨wr.heap.size, 1, none⟩ = some (.int .i64 id) := cell_of hla1 rfl
          have d2 : w1.cell? ⟨wr.heap.size, 2, none⟩ = some (.int .i64 q) := cell_of hla1 rfl
          have HR1 := Lib.hid (HN.out w1 hR1)
          have HA1 := Lib.hid hA1
          have HT1 := Lib.hid hT1
          clear hA1 hT1 hR1 hla1 c0 c1 c2
          go_wp2_with fail
          (with_reducible refine HR1.out.mono ?_)
          rintro e w2 ⟨rfl, v', hR2, hT2, hv2⟩
          obtain ⟨hQ, hkk⟩ := HPA.out.acts hsz hxz (Nat.le_refl _) hsx HA1.out HT1.out hR2 hT2 hv2
          have hla2 := hkk _ _ HLA0.out
          have HQ := Lib.hid hQ
          have HLA2 := Lib.hid hla2
          clear hR2 hT2 hv2 hQ hkk d0 d1 d2
          clear hla2
          have hlen17 := fun n => len_any (w2.drewN n) _ _ most L' (HQ.out.a.drewN n)
          have HL17 := Lib.hid hlen17
          have d2 : w2.cell? ⟨sx, 1, none⟩ = some v' := cell_of HQ.out.r.st rfl
          obtain ⟨A', cc, rfl⟩ := own_form HQ.out.r.row
          clear hlen17
          go_wp2
          go_quiet ((go_at_call 38; exact quiet_left (HL17.out _)))
          have hq3 := HQ.out.drewN nq
          have hl3 : (w2.drewN nq).heap[wr.heap.size]? = _ := HLA2.out
          generalize w2.drewN nq = w3 at hq3 hl3 ⊢
          clear HL17 d2 HLA2 HQ
          have HQ3 := Lib.hid hq3
          have HL3 := Lib.hid hl3
          clear hq3 hl3
          go_wp2
          generalize wr.heap.size = la at *
          obtain ⟨wo, rfl⟩ : ∃ wo : World, wo = w3 := ⟨_, rfl⟩
          go_loopw [16] (fun x wr => ∃ j : Nat, j ≤ 2 ∧ x = .int .i64 j ∧ PI w s w.heap.size sx (sx + 1) (sx + 1 + 1) (sx + 1 + 1 + 1) most L' (.slice A' L'.length cc) wr ∧ wr.heap[la]? = some (.cells #[.int .i64 3, .int .i64 id, .int .i64 q] 65 (0, 0))) (fun x _ => 2 - (intOf x).toNat)
          case atStart => exact ⟨0, by omega, rfl, HQ3.out, HL3.out⟩
          case round =>
            obtain ⟨j, hj, rfl, hQ, hla⟩ := hrel
            have hj3 : j = 0 ∨ j = 1 ∨ j = 2 := by omega
            rcases hj3 with rfl | rfl | rfl
            · have HQ := Lib.hid hQ
              have HLA := Lib.hid hla
              have HNDD := Lib.hid (HND.out wr.drew (.pointer none) (.inl rfl))
              have n0 : wr.cell? ⟨sx + 1 + 1 + 1, 0, none⟩ = some (.pointer none) := cell_of hQ.hn rfl
              have e0 : wr.cell? ⟨la, 0, none⟩ = some (.int .i64 3) := cell_of hla rfl
              have e1 : wr.cell? ⟨la, 1, none⟩ = some (.int .i64 id) := cell_of hla rfl
              have e2 : wr.cell? ⟨la, 2, none⟩ = some (.int .i64 q) := cell_of hla rfl
              clear hQ hla
              go_wp2
              go_region_held3 (fun w' => w'.cell? ⟨sx + 1 + 1 + 1, 0, none⟩ = some (.pointer none) ∧ w'.cell? ⟨la, 0, none⟩ = some (.int .i64 3) ∧ w'.cell? ⟨la, 1, none⟩ = some (.int .i64 id) ∧ w'.cell? ⟨la, 2, none⟩ = some (.int .i64 q))
                (first | exact ⟨n0, e0, e1, e2⟩ | (refine ⟨?_, ?_, ?_, ?_⟩ <;> assumption))
                (first | (go_at_call 34; refine HNDD.out.mono ?_; rintro e w' ⟨rfl, hb'⟩; have k0 := (Same.of_below hb').cell n0; have k1 := (Same.of_below hb').cell e0; have k2 := (Same.of_below hb').cell e1; have k3 := (Same.of_below hb').cell e2))
              have hQ4 := (HQ.out.drewN 1).grown hb'
              have hla4 : w'.heap[la]? = _ := (hb'.block la (lt_of_block HLA.out)).trans HLA.out
              have HL23 := Lib.hid (nlen_any w' (.pointer none) (.inl rfl))
              have n4 : w'.cell? ⟨sx + 1 + 1 + 1, 0, none⟩ = some (.pointer none) := cell_of hQ4.hn rfl
              have HQ4 := Lib.hid hQ4
              have HLA4 := Lib.hid hla4
              clear hQ4 hla4 n0 e0 e1 e2 hb'
              go_wp2_with (go_at_call 38; refine HL23.out.mono ?_; rintro e w5 ⟨rfl, rfl⟩)
              go_roundw
              case rel => exact ⟨0 + 1, by omega, by go_num, HQ4.out, HLA4.out⟩
              case measure => simp [intOf]
            · have HQ := Lib.hid hQ
              have HLA := Lib.hid hla
              have HNDD := Lib.hid (HND.out wr.drew (.pointer (some ⟨sx + 1 + 1, 0, none⟩)) ((hQ.drewN 1).nobody.2))
              have n0 : wr.cell? ⟨sx + 1 + 1 + 1, 1, none⟩ = some (.pointer (some ⟨sx + 1 + 1, 0, none⟩)) := cell_of hQ.hn rfl
              have e0 : wr.cell? ⟨la, 0, none⟩ = some (.int .i64 3) := cell_of hla rfl
              have e1 : wr.cell? ⟨la, 1, none⟩ = some (.int .i64 id) := cell_of hla rfl
              have e2 : wr.cell? ⟨la, 2, none⟩ = some (.int .i64 q) := cell_of hla rfl
              clear hQ hla
              go_wp2
              go_region_held3 (fun w' => w'.cell? ⟨sx + 1 + 1 + 1, 1, none⟩ = some (.pointer (some ⟨sx + 1 + 1, 0, none⟩)) ∧ w'.cell? ⟨la, 0, none⟩ = some (.int .i64 3) ∧ w'.cell? ⟨la, 1, none⟩ = some (.int .i64 id) ∧ w'.cell? ⟨la, 2, none⟩ = some (.int .i64 q))
                (first | exact ⟨n0, e0, e1, e2⟩ | (refine ⟨?_, ?_, ?_, ?_⟩ <;> assumption))
                (first | (go_at_call 34; refine HNDD.out.mono ?_; rintro e w' ⟨rfl, hb'⟩; have k0 := (Same.of_below hb').cell n0; have k1 := (Same.of_below hb').cell e0; have k2 := (Same.of_below hb').cell e1; have k3 := (Same.of_below hb').cell e2))
              have hQ4 := (HQ.out.drewN 1).grown hb'
              have hla4 : w'.heap[la]? = _ := (hb'.block la (lt_of_block HLA.out)).trans HLA.out
              have HL23 := Lib.hid (nlen_any w' (.pointer (some ⟨sx + 1 + 1, 0, none⟩)) (hQ4.nobody.2))
              have n4 : w'.cell? ⟨sx + 1 + 1 + 1, 1, none⟩ = some (.pointer (some ⟨sx + 1 + 1, 0, none⟩)) := cell_of hQ4.hn rfl
              have HQ4 := Lib.hid hQ4
              have HLA4 := Lib.hid hla4
              clear hQ4 hla4 n0 e0 e1 e2 hb'
              go_wp2_with (go_at_call 38; refine HL23.out.mono ?_; rintro e w5 ⟨rfl, rfl⟩)
              go_roundw
              case rel => exact ⟨1 + 1, by omega, by go_num, HQ4.out, HLA4.out⟩
              case measure => simp [intOf]
            · have HQ := Lib.hid hQ
              clear hQ hla
              go_wp2
              go_roundw
              case rel => exact ⟨k + 1, L', _, by omega, by go_num, HQ.out, hI', by omega⟩
              case measure => simp [intOf]; omega
        · rw [act0 _ _ _ _ h4.1 h4.2.1 h4.2.2] at hdo hI' hL'
          simp only [if_neg h4.1] at hnd
          have t1 : (kd == 1) = false := beq_eq_false_iff_ne.2 h4.1
          have t2 : (kd == 2) = false := beq_eq_false_iff_ne.2 h4.2.1
          have t3 : (kd == 3) = false := beq_eq_false_iff_ne.2 h4.2.2
          obtain ⟨L', rfl⟩ : ∃ L', L' = L := ⟨_, rfl⟩
          simp only at hdo hI' hL'
          clear h4
          have HD := Lib.hid hdo
          have HND := Lib.hid hnd
          clear hdo hnd hI hn1 hn2 hn3 hz1
          go_wp2_with fail
          rw [HWA.out]
          (with_reducible refine HD.out.mono ?_)
          rintro e w1 ⟨rfl, hA1, hT1⟩
          have hR1 := HPA.out.ref hT1
          have hla1 := kept65 hT1 HLA0.out (by simp; omega)
          have d0 : w1.cell? ⟨wr.heap.size, 0, none⟩ = some (.int .i64 kd) := cell_of hla1 rfl
          have d1 : w1.cell? ⟨wr.heap.size, 1, none⟩ = some (.int .i64 id) := cell_of hla1 rfl
          have d2 : w1.cell? ⟨wr.heap.size, 2, none⟩ = some (.int .i64 q) := cell_of hla1 rfl
          obtain ⟨hQ, hkk⟩ := HPA.out.acts hsz hxz (Nat.le_refl _) hsx hA1 hT1 hR1 (Tch.refl _ _) (fun g hg => .inl hg)
          have hla2 := hkk _ _ HLA0.out
          have HQ := Lib.hid hQ
          have HLA2 := Lib.hid hla2
          clear hQ hkk hA1 hT1 hR1 hla1 c0 c1 c2 d1 d2 hla2
          obtain ⟨w2, rfl⟩ : ∃ w2 : World, w2 = w1 := ⟨_, rfl⟩
          have hlen17 := fun n => len_any (w2.drewN n) _ _ most L' (HQ.out.a.drewN n)
          have HL17 := Lib.hid hlen17
          have d2 : w2.cell? ⟨sx, 1, none⟩ = some v := cell_of HQ.out.r.st rfl
          obtain ⟨A', cc, rfl⟩ := own_form HQ.out.r.row
          clear hlen17
          go_wp2
          go_quiet ((go_at_call 38; exact quiet_left (HL17.out _)))
          have hq3 := HQ.out.drewN nq
          have hl3 : (w2.drewN nq).heap[wr.heap.size]? = _ := HLA2.out
          generalize w2.drewN nq = w3 at hq3 hl3 ⊢
          clear HL17 d2 HLA2 HQ
          have HQ3 := Lib.hid hq3
          have HL3 := Lib.hid hl3
          clear hq3 hl3
          go_wp2
          generalize wr.heap.size = la at *
          obtain ⟨wo, rfl⟩ : ∃ wo : World, wo = w3 := ⟨_, rfl⟩
          go_loopw [16] (fun x wr => ∃ j : Nat, j ≤ 2 ∧ x = .int .i64 j ∧ PI w s w.heap.size sx (sx + 1) (sx + 1 + 1) (sx + 1 + 1 + 1) most L' (.slice A' L'.length cc) wr ∧ wr.heap[la]? = some (.cells #[.int .i64 kd, .int .i64 id, .int .i64 q] 65 (0, 0))) (fun x _ => 2 - (intOf x).toNat)
          case atStart => exact ⟨0, by omega, rfl, HQ3.out, HL3.out⟩
          case round =>
            obtain ⟨j, hj, rfl, hQ, hla⟩ := hrel
            have hj3 : j = 0 ∨ j = 1 ∨ j = 2 := by omega
            rcases hj3 with rfl | rfl | rfl
            · have HQ := Lib.hid hQ
              have HLA := Lib.hid hla
              have HNDD := Lib.hid (HND.out wr.drew (.pointer none) (.inl rfl))
              have n0 : wr.cell? ⟨sx + 1 + 1 + 1, 0, none⟩ = some (.pointer none) := cell_of hQ.hn rfl
              have e0 : wr.cell? ⟨la, 0, none⟩ = some (.int .i64 kd) := cell_of hla rfl
              have e1 : wr.cell? ⟨la, 1, none⟩ = some (.int .i64 id) := cell_of hla rfl
              have e2 : wr.cell? ⟨la, 2, none⟩ = some (.int .i64 q) := cell_of hla rfl
              clear hQ hla
              go_wp2
              go_region_held3 (fun w' => w'.cell? ⟨sx + 1 + 1 + 1, 0, none⟩ = some (.pointer none) ∧ w'.cell? ⟨la, 0, none⟩ = some (.int .i64 kd) ∧ w'.cell? ⟨la, 1, none⟩ = some (.int .i64 id) ∧ w'.cell? ⟨la, 2, none⟩ = some (.int .i64 q))
                (first | exact ⟨n0, e0, e1, e2⟩ | (refine ⟨?_, ?_, ?_, ?_⟩ <;> assumption))
                (first | (go_at_call 34; refine HNDD.out.mono ?_; rintro e w' ⟨rfl, hb'⟩; have k0 := (Same.of_below hb').cell n0; have k1 := (Same.of_below hb').cell e0; have k2 := (Same.of_below hb').cell e1; have k3 := (Same.of_below hb').cell e2))
              have hQ4 := (HQ.out.drewN 1).grown hb'
              have hla4 : w'.heap[la]? = _ := (hb'.block la (lt_of_block HLA.out)).trans HLA.out
              have HL23 := Lib.hid (nlen_any w' (.pointer none) (.inl rfl))
              have n4 : w'.cell? ⟨sx + 1 + 1 + 1, 0, none⟩ = some (.pointer none) := cell_of hQ4.hn rfl
              have HQ4 := Lib.hid hQ4
              have HLA4 := Lib.hid hla4
              clear hQ4 hla4 n0 e0 e1 e2 hb'
              go_wp2_with (go_at_call 38; refine HL23.out.mono ?_; rintro e w5 ⟨rfl, rfl⟩)
              go_roundw
              case rel => exact ⟨0 + 1, by omega, by go_num, HQ4.out, HLA4.out⟩
              case measure => simp [intOf]
            · have HQ := Lib.hid hQ
              have HLA := Lib.hid hla
              have HNDD := Lib.hid (HND.out wr.drew (.pointer (some ⟨sx + 1 + 1, 0, none⟩)) ((hQ.drewN 1).nobody.2))
              have n0 : wr.cell? ⟨sx + 1 + 1 + 1, 1, none⟩ = some (.pointer (some ⟨sx + 1 + 1, 0, none⟩)) := cell_of hQ.hn rfl
              have e0 : wr.cell? ⟨la, 0, none⟩ = some (.int .i64 kd) := cell_of hla rfl
              have e1 : wr.cell? ⟨la, 1, none⟩ = some (.int .i64 id) := cell_of hla rfl
              have e2 : wr.cell? ⟨la, 2, none⟩ = some (.int .i64 q) := cell_of hla rfl
              clear hQ hla
              go_wp2
              go_region_held3 (fun w' => w'.cell? ⟨sx + 1 + 1 + 1, 1, none⟩ = some (.pointer (some ⟨sx + 1 + 1, 0, none⟩)) ∧ w'.cell? ⟨la, 0, none⟩ = some (.int .i64 kd) ∧ w'.cell? ⟨la, 1, none⟩ = some (.int .i64 id) ∧ w'.cell? ⟨la, 2, none⟩ = some (.int .i64 q))
                (first | exact ⟨n0, e0, e1, e2⟩ | (refine ⟨?_, ?_, ?_, ?_⟩ <;> assumption))
                (first | (go_at_call 34; refine HNDD.out.mono ?_; rintro e w' ⟨rfl, hb'⟩; have k0 := (Same.of_below hb').cell n0; have k1 := (Same.of_below hb').cell e0; have k2 := (Same.of_below hb').cell e1; have k3 := (Same.of_below hb').cell e2))
              have hQ4 := (HQ.out.drewN 1).grown hb'
              have hla4 : w'.heap[la]? = _ := (hb'.block la (lt_of_block HLA.out)).trans HLA.out
              have HL23 := Lib.hid (nlen_any w' (.pointer (some ⟨sx + 1 + 1, 0, none⟩)) (hQ4.nobody.2))
              have n4 : w'.cell? ⟨sx + 1 + 1 + 1, 1, none⟩ = some (.pointer (some ⟨sx + 1 + 1, 0, none⟩)) := cell_of hQ4.hn rfl
              have HQ4 := Lib.hid hQ4
              have HLA4 := Lib.hid hla4
              clear hQ4 hla4 n0 e0 e1 e2 hb'
              go_wp2_with (go_at_call 38; refine HL23.out.mono ?_; rintro e w5 ⟨rfl, rfl⟩)
              go_roundw
              case rel => exact ⟨1 + 1, by omega, by go_num, HQ4.out, HLA4.out⟩
              case measure => simp [intOf]
            · have HQ := Lib.hid hQ
              clear hQ hla
              go_wp2
              go_roundw
              case rel => exact ⟨k + 1, L', _, by omega, by go_num, HQ.out, hI', by omega⟩
              case measure => simp [intOf]; omega
      · obtain rfl : k = acts.length := by omega
        have HB := Lib.hid hP.below
        clear hP hI
        go_wp2_with fail
        refine (pawake_any _).mono ?_
        rintro e w' ⟨rfl, hb'⟩
        have HB' := Lib.hid hb'
        clear hb'
        go_wp2
        go_ret
        exact ⟨rfl, HB.out.trans (HB'.out.mono HB.out.size)⟩
  · go_enter Try.func9, Try.ntmps9
    go_wp2_with fail
    refine (pawake_any _).mono ?_
    rintro e w' ⟨rfl, hb⟩
    go_wp2
    go_ret
    exact ⟨rfl, hb⟩
end Go.Proofs.Ytapiaiobohkemaa.InW
