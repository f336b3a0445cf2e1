/- Hash and Least, of pick and of its reference; what must come. -/
import Derived.Test.YtclhgnlhejohgaaPickC
import Derived.Deep.RegionWith
set_option linter.unusedVariables false
set_option linter.unusedSimpArgs false
namespace Go.Proofs.Ytclhgnlhejohgaa.PickW
open Go.RowKit Go.Proofs.Ytclhgnlhejohgaa.Tc Go.Proofs.Ytclhgnlhejohgaa.PickP

def Small (l : List ByteArray) : Prop := ∀ k, k < l.length → (l.getD k ByteArray.empty).size ≤ 100
/-- What Hash's function numbers: less what it ranks. -/
def nums (key : ByteArray) (l : List ByteArray) (k : Nat) : Int := -rank key (l.getD k ByteArray.empty)
/-- What Hash's function finds. -/
structure JH (b2 b3 : Nat) (A : Option Addr) (cap : Nat) (key : ByteArray) (l : List ByteArray) (w : World) : Prop where
  k : w.cell? ⟨b3, 0, none⟩ = some (.string key)
  h : w.cell? ⟨b2, 0, none⟩ = some (.slice A l.length cap)
  s : SliceIs kS w A l
theorem JH.grown {b2 b3 : Nat} {A : Option Addr} {cap : Nat} {key : ByteArray} {l : List ByteArray} {w w' : World} (h : JH b2 b3 A cap key l w) (hb : Below w.heap.size w w') : JH b2 b3 A cap key l w' :=
  ⟨(Same.of_below hb).cell h.k, (Same.of_below hb).cell h.h, h.s.below hb⟩
set_option maxRecDepth 100000 in
set_option maxHeartbeats 1000000 in
theorem hash_fn (b2 b3 : Nat) (A : Option Addr) (cap : Nat) (key : ByteArray) (l : List ByteArray) (hk : key.size ≤ 100) (hs : Small l) (w : World) (k : Nat) (h : JH b2 b3 A cap key l w) (hlt : k < l.length) :
    Calls Try.prog 78 #[.int .i64 k, .pointer (some ⟨b3, 0, none⟩), .pointer (some ⟨b2, 0, none⟩)] w fun e w' => e = .returned (.int .i64 (nums key l k)) ∧ Below w.heap.size w w' := by
  obtain ⟨b, off, rfl, c0, -⟩ := str_cell h.s hlt
  have hz1 := hs k hlt
  have d1 := fun n : Wd (Gr w) => n.cell h.k
  have d2 := fun n : Wd (Gr w) => n.cell h.h
  have d3 := fun n : Wd (Gr w) => n.cell c0
  have hlen := h.s.len
  unfold maxLen at hlen
  clear h hs c0
  unfold nums
  generalize l.getD k ByteArray.empty = z at d3 hz1 ⊢
  have hr := rank_bd key z
  have HR := Lib.hid (fun w' => rank_any key z w' (by omega))
  generalize rank key z = r at hr HR ⊢
  go_enter Try.func78, Try.ntmps78
  go_wp2
  refine wp_region_cls (Gr w) (gr_drew w) (by kernel_rfl) (by kernel_rfl) ?_
  repeat (go_big_quiet_step ((go_at_call 20; exact cls_call (HR.out _))))
  refine wpQuiet_nil ?_
  rintro _ ⟨⟨wq, hq⟩, rfl⟩
  go_wp2
  go_ret
  exact ⟨rfl, hq⟩
theorem hash_pick (key : ByteArray) (l : List ByteArray) : pickBy l (nums key l) = hash (rank key) l := rfl
theorem alloc_below (w : World) (o : Obj) : Below w.heap.size w (w.alloc o) := (Below.refl _ _).alloc (Nat.le_refl _) _
set_option maxHeartbeats 1000000 in
theorem hash_any (w : World) (A : Option Addr) (cap : Nat) (l : List ByteArray) (key : ByteArray) (hS : SliceIs kS w A l) (hk : key.size ≤ 100) (hs : Small l) :
    Calls Try.prog 25 #[.slice A l.length cap, .string key] w fun e w' => e = .returned (.string (hash (rank key) l)) ∧ Below w.heap.size w w' := by
  have b1 := alloc_below w (.cells #[.slice A l.length cap] 26)
  have b2 := alloc_below (w.alloc (.cells #[.slice A l.length cap] 26)) (.cells #[.string key] 9)
  have hJ : JH w.heap.size (w.heap.size + 1) A cap key l ((w.alloc (.cells #[.slice A l.length cap] 26)).alloc (.cells #[.string key] 9)) := by
    refine ⟨?_, ?_, (hS.below b1).below b2⟩
    · have h1 := heap_alloc_new (w.alloc (.cells #[.slice A l.length cap] 26)) (.cells #[.string key] 9)
      rw [show (w.alloc (.cells #[.slice A l.length cap] 26)).heap.size = w.heap.size + 1 by simp] at h1
      exact cell_of h1 rfl
    · exact cell_of ((b2.block w.heap.size (by simp)).trans (heap_alloc_new w _)) rfl
  have hc := hJ.h
  have HF := Lib.hid (first_any 78 (.pointer (some ⟨w.heap.size + 1, 0, none⟩)) (.pointer (some ⟨w.heap.size, 0, none⟩)) _ A cap l (nums key l) _ (enters_of Try.func78 (by kernel_rfl) rfl) hJ.s hJ
    (fun w1 w2 h hb => h.grown hb) (fun w' k h hlt => hash_fn _ _ A cap key l hk hs w' k h hlt))
  have HB := Lib.hid (then_below b1 b2)
  clear hJ hS b1 b2 hs
  go_enter Try.func25, Try.ntmps25
  go_wp2_with fail
  refine HF.out.mono ?_
  rintro e w' ⟨rfl, hb⟩
  have HB2 := Lib.hid (HB.out.trans (hb.mono HB.out.size))
  clear hb
  go_wp2_with fail
  go_ret
  exact ⟨rfl, HB2.out⟩
set_option maxHeartbeats 1000000 in
theorem least_fn (b : Nat) (C : Option Addr) (cap : Nat) (counts : List Int) (w : World) (k : Nat) (hk : k ≤ 1000000) (hc : w.cell? ⟨b, 0, none⟩ = some (.slice C counts.length cap)) (hs : SliceIs kI w C counts) :
    Calls Try.prog 79 #[.int .i64 k, .pointer (some ⟨b, 0, none⟩)] w fun e w' => e = .returned (.int .i64 (counts.getD k 0)) ∧ w = w' := by
  have hlen := hs.len
  unfold maxLen at hlen
  by_cases hlt : k < counts.length
  · obtain ⟨b, off, rfl, c0⟩ := int_cell hs hlt
    clear hs
    generalize counts.getD k 0 = z at c0 ⊢
    go_enter Try.func79, Try.ntmps79
    go_wp2
    go_ret
    exact ⟨rfl, rfl⟩
  · have hz : counts.getD k 0 = 0 := by rw [List.getD_eq_getElem?_getD, List.getElem?_eq_none (by omega)]; rfl
    rw [hz]
    clear hs hz
    go_enter Try.func79, Try.ntmps79
    go_wp2
    go_ret
    exact ⟨rfl, rfl⟩
/-- What Least's function finds. -/
structure JL (b : Nat) (C : Option Addr) (cap : Nat) (counts : List Int) (w : World) : Prop where
  c : w.cell? ⟨b, 0, none⟩ = some (.slice C counts.length cap)
  s : SliceIs kI w C counts
theorem JL.grown {b : Nat} {C : Option Addr} {cap : Nat} {counts : List Int} {w w' : World} (h : JL b C cap counts w) (hb : Below w.heap.size w w') : JL b C cap counts w' :=
  ⟨(Same.of_below hb).cell h.c, h.s.below hb⟩
set_option maxRecDepth 100000 in
set_option maxHeartbeats 2000000 in
/-- 'first', its function with one variable. -/
theorem first_one (F : FuncId) (p : Value) (w : World) (A : Option Addr) (cap : Nat) (l : List ByteArray) (f : Nat → Int) (J : World → Prop) (hF : ∀ args w, (callFunc F args).run Try.prog w = .ok (.enter F args) w) (hS : SliceIs kS w A l) (hJ : J w)
    (hmono : ∀ w1 w2, J w1 → Below w1.heap.size w1 w2 → J w2)
    (hcall : ∀ w' (k : Nat), J w' → k < l.length → Calls Try.prog F #[.int .i64 k, p] w' fun e w'' => e = .returned (.int .i64 (f k)) ∧ Below w'.heap.size w' w'') :
    Calls Try.prog 77 #[.slice A l.length cap, .func (.func F) #[] #[p]] w fun e w' => e = .returned (.string (pickBy l f)) ∧ Below w.heap.size w w' := by
  have hlen := hS.len
  unfold maxLen at hlen
  have HS := Lib.hid hS
  have HJ := Lib.hid hJ
  have HM := Lib.hid hmono
  have HC := Lib.hid hcall
  clear hS hJ hmono hcall
  go_enter Try.func77, Try.ntmps77
  go_wp2
  go_loopw [5, 6, 12] (fun b m x wr => ∃ k : Nat, k ≤ l.length ∧ b = .string (st l f k).1 ∧ m = .int .i64 (st l f k).2 ∧ x = .int .i64 k ∧ J wr ∧ Below w.heap.size w wr) (fun _ _ x _ => l.length - (intOf x).toNat)
  case atStart => exact ⟨0, by omega, rfl, rfl, rfl, HJ.out, Below.refl _ _⟩
  case round =>
    obtain ⟨k, hk, rfl, rfl, rfl, hJr, hB⟩ := hrel
    by_cases hlt : k < l.length
    · obtain ⟨b, off, rfl, c0, -⟩ := str_cell (HS.out.below hB) hlt
      have HCC := Lib.hid (HC.out wr k hJr hlt)
      have HB := Lib.hid hB
      have HJR := Lib.hid hJr
      have hst := st_succ l f (k := k)
      have HST := Lib.hid hst
      generalize hz : l.getD k ByteArray.empty = z at c0
      have HZ := Lib.hid hz
      clear hz hB hJr hst
      have hpost : ∀ w'', Below wr.heap.size wr w'' → J w'' ∧ Below w.heap.size w w'' := fun w'' h => ⟨HM.out _ _ HJR.out h, then_below HB.out h⟩
      have HP := Lib.hid hpost
      clear hpost
      by_cases k0 : k = 0
      · have kb : ((k : Int) == 0) = true := by simp [k0]
        have HS1 : Hid (st l f (k + 1) = (z, f k)) := by rw [k0]; rw [k0] at HZ; rw [st_one, HZ.out]; exact rfl
        clear k0
        go_wp2_with fail
        refine HCC.out.mono ?_
        rintro e w2 ⟨rfl, hb⟩
        have HP2 := Lib.hid (HP.out w2 hb)
        clear hb
        go_wp2_with fail
        go_roundw
        case rel => exact ⟨k + 1, by omega, by rw [HS1.out], by rw [HS1.out], by go_num, HP2.out⟩
        case measure => simp [intOf]; omega
      · have kb : ((k : Int) == 0) = false := by simpa using k0
        by_cases hless : f k < (st l f k).2
        · have HS1 := Lib.hid ((HST.out (by omega)).trans (if_pos hless))
          generalize st l f k = s0 at hless
          generalize f k = fk at *
          go_wp2_with fail
          refine HCC.out.mono ?_
          rintro e w2 ⟨rfl, hb⟩
          have HP2 := Lib.hid (HP.out w2 hb)
          clear hb
          go_wp2_with fail
          go_roundw
          case rel => exact ⟨k + 1, by omega, by rw [HS1.out, HZ.out], by rw [HS1.out], by go_num, HP2.out⟩
          case measure => simp [intOf]; omega
        · have HS1 := Lib.hid ((HST.out (by omega)).trans (if_neg hless))
          generalize st l f k = s0 at *
          generalize f k = fk at *
          go_wp2_with fail
          refine HCC.out.mono ?_
          rintro e w2 ⟨rfl, hb⟩
          have HP2 := Lib.hid (HP.out w2 hb)
          clear hb
          go_wp2_with fail
          go_roundw
          case rel => exact ⟨k + 1, by omega, by rw [HS1.out], by rw [HS1.out], by go_num, HP2.out⟩
          case measure => simp [intOf]; omega
    · obtain rfl : k = l.length := by omega
      have HB := Lib.hid hB
      have HE := Lib.hid (st_end l f)
      clear hB hJr
      go_wp2
      go_ret
      exact ⟨by rw [HE.out]; rfl, HB.out⟩
set_option maxHeartbeats 1000000 in
theorem least_any (w : World) (A C : Option Addr) (ca cc : Nat) (l : List ByteArray) (counts : List Int) (hS : SliceIs kS w A l) (hC : SliceIs kI w C counts) (hl : l.length ≤ 1000000) :
    Calls Try.prog 27 #[.slice A l.length ca, .slice C counts.length cc] w fun e w' => e = .returned (.string (least l counts)) ∧ Below w.heap.size w w' := by
  have b1 := alloc_below w (.cells #[.slice C counts.length cc] 27)
  have hJ : JL w.heap.size C cc counts (w.alloc (.cells #[.slice C counts.length cc] 27)) := ⟨cell_of (heap_alloc_new w _) rfl, hC.below b1⟩
  have HF := Lib.hid (first_one 79 (.pointer (some ⟨w.heap.size, 0, none⟩)) _ A ca l (fun i => counts.getD i 0) _ (enters_of Try.func79 (by kernel_rfl) rfl) (hS.below b1) hJ
    (fun w1 w2 h hb => h.grown hb) (fun w' k h hlt => (least_fn _ C cc counts w' k (by omega) h.c h.s).mono fun e w'' ⟨he, hw⟩ => ⟨he, by subst hw; exact Below.refl _ _⟩))
  have HB := Lib.hid b1
  clear hJ hS hC b1
  go_enter Try.func27, Try.ntmps27
  go_wp2_with fail
  refine HF.out.mono ?_
  rintro e w' ⟨rfl, hb⟩
  have HB2 := Lib.hid (HB.out.trans (hb.mono HB.out.size))
  clear hb
  go_wp2_with fail
  go_ret
  exact ⟨rfl, HB2.out⟩

/-! ### the reference's -/
def bp (f : Nat → Int) (k : Nat) : Int := match bestI f k with | some y => y.1 | none => -1
theorem bp_zero (f : Nat → Int) : bp f 0 = -1 := rfl
theorem bp_one (f : Nat → Int) : bp f 1 = 0 := rfl
theorem bp_pos (f : Nat → Int) {k : Nat} (h : 0 < k) : ∃ p : Nat, bp f k = p ∧ p < k ∧ bestI f k = some (p, f p) := by
  obtain ⟨y, hy, h1, h2⟩ := bestI_some f h
  refine ⟨y.1, by unfold bp; rw [hy], h1, ?_⟩
  rw [hy, ← h2]
theorem bp_succ (f : Nat → Int) {k p : Nat} (h : bestI f k = some (p, f p)) : bp f (k + 1) = if f k < f p then (k : Int) else p := by
  unfold bp
  rw [bestI_succ, h]
  simp only [lesser]
  by_cases hlt : f k < f p
  · rw [if_pos hlt, if_pos hlt]
  · rw [if_neg hlt, if_neg hlt]
theorem bp_end (l : List ByteArray) (f : Nat → Int) : (l = [] → pickBy l f = ByteArray.empty) ∧ (∀ p : Nat, bestI f l.length = some (p, f p) → pickBy l f = l.getD p ByteArray.empty) :=
  ⟨fun h => by subst h; rfl, fun p h => by unfold pickBy; rw [h]⟩
theorem size_empty : ByteArray.empty = (⟨#[]⟩ : ByteArray) := rfl
set_option maxHeartbeats 2000000 in
theorem rhash_any (w : World) (A : Option Addr) (cap : Nat) (l : List ByteArray) (key : ByteArray) (hS : SliceIs kS w A l) (hk : key.size ≤ 100) (hs : Small l) :
    Calls Try.prog 26 #[.slice A l.length cap, .string key] w fun e w' => e = .returned (.string (hash (rank key) l)) ∧ ∃ n, w' = w.drewN n := by
  have hlen := hS.len
  unfold maxLen at hlen
  have HS := Lib.hid hS
  have HSM := Lib.hid hs
  clear hS hs
  go_enter Try.func26, Try.ntmps26
  go_upto_block 0 with (fail)
  go_cut [5] (fun x wx => x = .int .i64 (bp (nums key l) l.length) ∧ ∃ n, wx = w.drewN n)
  case first =>
    go_wp2
    go_loopw [5, 6] (fun b x wr => ∃ k : Nat, k ≤ l.length ∧ b = .int .i64 (bp (nums key l) k) ∧ x = .int .i64 k ∧ Dr w wr) (fun _ x _ => l.length - (intOf x).toNat)
    case atStart => exact ⟨0, by omega, rfl, rfl, dr_refl w⟩
    case round =>
      obtain ⟨k, hk', rfl, rfl, hD⟩ := hrel
      have HD := Lib.hid hD
      by_cases hlt : k < l.length
      · obtain ⟨b, off, rfl, c0, -⟩ := str_cell (HS.out.below hD.below) hlt
        clear hD
        by_cases k0 : k = 0
        · subst k0
          have hb : bp (nums key l) 0 = -1 := rfl
          rw [hb]
          clear hb c0
          go_wp2
          refine wp_region_cls (Dr wr) (dr_drew wr) (by kernel_rfl) (by kernel_rfl) ?_
          repeat (go_big_quiet_step (fail))
          refine wpQuiet_nil ?_
          rintro _ ⟨⟨wq, hq⟩, rfl⟩
          have HQ := Lib.hid (Dr.trans HD.out hq)
          clear hq
          go_wp2
          go_roundw
          case rel => exact ⟨1, by omega, by rw [bp_one]; rfl, rfl, HQ.out⟩
          case measure => simp [intOf]; omega
        · obtain ⟨p, hp, hpk, hbest⟩ := bp_pos (nums key l) (k := k) (by omega)
          rw [hp]
          obtain ⟨b', off', hA, c1, -⟩ := str_cell (HS.out.below HD.out.below) (k := p) (by omega)
          injection hA with hA
          injection hA with hA1 hA2
          subst hA1
          subst hA2
          have hsu := bp_succ _ hbest
          have hz1 := HSM.out k hlt
          have hz2 := HSM.out p (by omega)
          unfold nums at hsu
          have HRK := Lib.hid (fun w' => rrank_any key (l.getD k ByteArray.empty) w' (by omega))
          have HRP := Lib.hid (fun w' => rrank_any key (l.getD p ByteArray.empty) w' (by omega))
          generalize rank key (l.getD k ByteArray.empty) = rk at hsu HRK
          generalize rank key (l.getD p ByteArray.empty) = rp at hsu HRP
          have HSU := Lib.hid hsu
          clear hsu hp hbest
          generalize l.getD k ByteArray.empty = zk at *
          generalize l.getD p ByteArray.empty = zp at *
          have d0 : ¬ ((p : Int) < 0) := by omega
          have d1 : decide ((p : Int) < 0) = false := decide_eq_false d0
          have d2 : (p : Int) < l.length := by omega
          have d3 := fun n : Wd (Dr wr) => n.cellD c0
          have d4 := fun n : Wd (Dr wr) => n.cellD c1
          clear c0 c1
          by_cases hless : rp < rk
          · have e := HSU.out.trans (if_pos (by omega))
            have E := Lib.hid e
            clear e
            go_wp2
            refine wp_region_cls (Dr wr) (dr_drew wr) (by kernel_rfl) (by kernel_rfl) ?_
            repeat (go_big_quiet_step ((first | (go_at_call_of 21 (Value.string zk); exact cls_same (HRK.out _)) | (go_at_call_of 21 (Value.string zp); exact cls_same (HRP.out _)))))
            refine wpQuiet_nil ?_
            rintro _ ⟨⟨wq, hq⟩, rfl⟩
            have HQ := Lib.hid (Dr.trans HD.out hq)
            clear hq
            go_wp2
            go_roundw
            case rel => exact ⟨k + 1, by omega, by rw [show bp (nums key l) (k + 1) = k from E.out], by go_num, HQ.out⟩
            case measure => simp [intOf]; omega
          · have e := HSU.out.trans (if_neg (by omega))
            have E := Lib.hid e
            clear e
            go_wp2
            refine wp_region_cls (Dr wr) (dr_drew wr) (by kernel_rfl) (by kernel_rfl) ?_
            repeat (go_big_quiet_step ((first | (go_at_call_of 21 (Value.string zk); exact cls_same (HRK.out _)) | (go_at_call_of 21 (Value.string zp); exact cls_same (HRP.out _)))))
            refine wpQuiet_nil ?_
            rintro _ ⟨⟨wq, hq⟩, rfl⟩
            have HQ := Lib.hid (Dr.trans HD.out hq)
            clear hq
            go_wp2
            go_roundw
            case rel => exact ⟨k + 1, by omega, by rw [show bp (nums key l) (k + 1) = p from E.out], by go_num, HQ.out⟩
            case measure => simp [intOf]; omega
      · obtain rfl : k = l.length := by omega
        go_wp2
        go_meet
        exact ⟨rfl, HD.out⟩
  case rest =>
    obtain ⟨rfl, n, rfl⟩ := hcut
    have hE := bp_end l (nums key l)
    rw [hash_pick] at hE
    by_cases h0 : l.length = 0
    · have E1 := Lib.hid (hE.1 (List.eq_nil_of_length_eq_zero h0))
      rw [h0, bp_zero]
      clear hE h0
      go_wp2
      go_ret
      exact ⟨by rw [E1.out]; rfl, _, rfl⟩
    · obtain ⟨p, hp, hpk, hbest⟩ := bp_pos (nums key l) (k := l.length) (by omega)
      have E1 := Lib.hid (hE.2 p hbest)
      rw [hp]
      obtain ⟨b, off, rfl, c1, -⟩ := str_cell HS.out hpk
      generalize l.getD p ByteArray.empty = zp at *
      have d0 : ¬ ((p : Int) < 0) := by omega
      clear hE hbest hp
      go_wp2
      go_ret
      exact ⟨by rw [E1.out]; rfl, _, rfl⟩
set_option maxHeartbeats 2000000 in
theorem rleast_any (w : World) (A C : Option Addr) (ca cc : Nat) (l : List ByteArray) (counts : List Int) (hS : SliceIs kS w A l) (hC : SliceIs kI w C counts) (hl : l.length ≤ 1000000) :
    Calls Try.prog 28 #[.slice A l.length ca, .slice C counts.length cc] w fun e w' => e = .returned (.string (least l counts)) ∧ w = w' := by
  have hlen := hC.len
  unfold maxLen at hlen
  have HS := Lib.hid hS
  have HC := Lib.hid hC
  clear hS hC
  generalize hf : (fun i => counts.getD i 0) = f
  have hE := bp_end l f
  have HE := Lib.hid hE
  clear hE
  have hf' : ∀ i, counts.getD i 0 = f i := fun i => by rw [← hf]
  have HF := Lib.hid hf'
  have HL : Hid (least l counts = pickBy l f) := by rw [← hf]; rfl
  clear hf hf'
  go_enter Try.func28, Try.ntmps28
  go_upto_block 0 with (fail)
  go_cut [5] (fun x wx => x = .int .i64 (bp f l.length) ∧ wx = w)
  case first =>
    go_wp2
    go_loop [5, 6, 7] (fun b m x => ∃ k : Nat, k ≤ l.length ∧ b = .int .i64 (bp f k) ∧ m = .int .i64 (st l f k).2 ∧ x = .int .i64 k) (fun _ _ x => l.length - (intOf x).toNat)
    case atStart => exact ⟨0, by omega, rfl, rfl, rfl⟩
    case round =>
      obtain ⟨k, hk', rfl, rfl, rfl⟩ := hrel
      by_cases hlt : k < l.length
      · by_cases k0 : k = 0
        · have hb : bp f k = -1 := by rw [k0]; rfl
          have HN : Hid (bp f (k + 1) = (k : Int) ∧ (st l f (k + 1)).2 = f k) := by rw [k0]; exact ⟨bp_one f, rfl⟩
          rw [hb]
          clear hb k0
          by_cases hc : k < counts.length
          · obtain ⟨b, off, rfl, c0⟩ := int_cell HC.out hc
            rw [HF.out k] at c0
            generalize f k = fk at *
            go_wp2
            go_round
            case rel => exact ⟨k + 1, by omega, by rw [HN.out.1], by rw [HN.out.2], by go_num⟩
            case measure => simp [intOf]; omega
          · have hz : f k = 0 := by rw [← HF.out k, List.getD_eq_getElem?_getD, List.getElem?_eq_none (by omega)]; rfl
            rw [hz] at HN
            clear hz
            go_wp2
            go_round
            case rel => exact ⟨k + 1, by omega, by rw [HN.out.1], by rw [HN.out.2], by go_num⟩
            case measure => simp [intOf]; omega
        · obtain ⟨p, hp, hpk, hbest⟩ := bp_pos f (k := k) (by omega)
          have hsu := bp_succ _ hbest
          have hst := st_succ l f (k := k) (by omega)
          have hsp : (st l f k).2 = f p := by unfold st; rw [hbest]
          rw [hsp] at hst ⊢
          rw [hp]
          have d0 : ¬ ((p : Int) < 0) := by omega
          have HSU := Lib.hid hsu
          have HST := Lib.hid hst
          have HSP := Lib.hid hsp
          clear hsu hst hsp hp hbest
          by_cases hc : k < counts.length
          · obtain ⟨b, off, rfl, c0⟩ := int_cell HC.out hc
            rw [HF.out k] at c0
            by_cases hless : f k < f p
            · have N1 := Lib.hid (HSU.out.trans (if_pos hless))
              have N2 := Lib.hid (congrArg Prod.snd (HST.out.trans (if_pos hless)))
              clear HSU HST
              generalize f k = fk at *
              generalize f p = fp at *
              go_wp2
              go_round
              case rel => exact ⟨k + 1, by omega, by rw [N1.out], by rw [N2.out], by go_num⟩
              case measure => simp [intOf]; omega
            · have N1 := Lib.hid (HSU.out.trans (if_neg hless))
              have N2 := Lib.hid ((congrArg Prod.snd (HST.out.trans (if_neg hless))).trans HSP.out)
              clear HSU HST
              generalize f k = fk at *
              generalize f p = fp at *
              go_wp2
              go_round
              case rel => exact ⟨k + 1, by omega, by rw [N1.out], by rw [N2.out], by go_num⟩
              case measure => simp [intOf]; omega
          · have hz : f k = 0 := by rw [← HF.out k, List.getD_eq_getElem?_getD, List.getElem?_eq_none (by omega)]; rfl
            rw [hz] at HSU HST
            clear hz
            by_cases hless : 0 < f p
            · have N1 := Lib.hid (HSU.out.trans (if_pos hless))
              have N2 := Lib.hid (congrArg Prod.snd (HST.out.trans (if_pos hless)))
              clear HSU HST
              generalize f p = fp at *
              go_wp2
              go_round
              case rel => exact ⟨k + 1, by omega, by rw [N1.out], by rw [N2.out], by go_num⟩
              case measure => simp [intOf]; omega
            · have N1 := Lib.hid (HSU.out.trans (if_neg hless))
              have N2 := Lib.hid ((congrArg Prod.snd (HST.out.trans (if_neg hless))).trans HSP.out)
              clear HSU HST
              generalize f p = fp at *
              go_wp2
              go_round
              case rel => exact ⟨k + 1, by omega, by rw [N1.out], by rw [N2.out], by go_num⟩
              case measure => simp [intOf]; omega
      · obtain rfl : k = l.length := by omega
        go_wp2
        go_meet
        exact ⟨rfl, rfl⟩
  case rest =>
    obtain ⟨rfl, rfl⟩ := hcut
    by_cases h0 : l.length = 0
    · have E1 := Lib.hid (HL.out.trans (HE.out.1 (List.eq_nil_of_length_eq_zero h0)))
      rw [h0, bp_zero]
      clear h0
      go_wp2
      go_ret
      exact ⟨by rw [E1.out]; rfl, rfl⟩
    · obtain ⟨p, hp, hpk, hbest⟩ := bp_pos f (k := l.length) (by omega)
      have E1 := Lib.hid (HL.out.trans (HE.out.2 p hbest))
      rw [hp]
      obtain ⟨b, off, rfl, c1, -⟩ := str_cell HS.out hpk
      generalize l.getD p ByteArray.empty = zp at *
      have d0 : ¬ ((p : Int) < 0) := by omega
      clear hbest hp
      go_wp2
      go_ret
      exact ⟨by rw [E1.out]; rfl, rfl⟩
end Go.Proofs.Ytclhgnlhejohgaa.PickW
