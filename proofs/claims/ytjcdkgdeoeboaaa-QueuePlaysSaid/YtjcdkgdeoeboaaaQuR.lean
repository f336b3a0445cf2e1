/- QueuePlays: whatever is pushed, popped and expired, the messages are the document's. -/
import Derived.Test.YtjcdkgdeoeboaaaQuP
import Derived.Deep.CutBlock
set_option linter.unusedVariables false
set_option linter.unusedSimpArgs false
namespace Go.Proofs.Ytjcdkgdeoeboaaa.QuW
open Go.RowKit Go.Proofs.Ytjcdkgdeoeboaaa.Tc

theorem mg0_val : mg0.val = .agg #[.string ⟨#[]⟩, .string ⟨#[]⟩, .int .i64 0, .bool false, .slice none 0 0, .string ⟨#[]⟩, .int .i64 0, .int .i64 0, .string ⟨#[]⟩] := rfl
section
variable {w wr : World} {s x z : Nat} {most : Int} {v vx vz : Value} {L M : List Mg} {obs : List (Nat × Array Value × TypeId)} {p : Option Addr}
/-- What a call at a queue that nobody made leaves. -/
structure Nb (w wr : World) (s x z : Nat) (most : Int) (v vx vz : Value) (L M : List Mg) (obs : List (Nat × Array Value × TypeId)) (w' : World) (vz' : Value) : Prop where
  pl : Pl w w' s x z most v vx vz' L M obs
  loc : ∀ g, vz'.ownBlock = some g → vz.ownBlock = some g ∨ wr.heap.size ≤ g
  size : wr.heap.size ≤ w'.heap.size
  kept : ∀ (t : Nat) (c : Array Value), wr.heap[t]? = some (.cells c 24 (0, 0)) → vz.ownBlock ≠ some t → w'.heap[t]? = some (.cells c 24 (0, 0))
theorem Nb.of_below {w' : World} (h : Pl w wr s x z most v vx vz L M obs) (hb : Below wr.heap.size wr w') : Nb w wr s x z most v vx vz L M obs w' vz :=
  ⟨h.below hb, fun g hg => .inl hg, hb.size, fun t c ht _ => (hb.block _ (lt_of_block ht)).trans ht⟩
theorem Nb.of_step {w' : World} {vz' : Value} (h : Pl w wr s x z most v vx vz L M obs) (k : Step 43 w.heap.size wr z 0 vz [] w' vz') : Nb w wr s x z most v vx vz L M obs w' vz' := by
  refine ⟨h.stepn k, k.loc, k.stp.size, fun t c ht hv => (k.tch.block _ (lt_of_block ht) ?_).trans ht⟩
  intro hm
  rcases List.mem_cons.1 hm with rfl | hm
  · have := h.n.st
    rw [ht] at this; injection this with this; injection this with _ this; exact absurd this (by decide)
  · exact hv (by simpa using hm)
theorem nb_pop (h : Pl w wr s x z most v vx vz L M obs) (hp : p = none ∨ p = some ⟨z, 0, none⟩) (now : Int) :
    Calls Try.prog 14 #[.pointer p, .int .i64 now] wr fun e w' => e = .returned (.tuple #[mg0.val, .bool false]) ∧ ∃ vz', Nb w wr s x z most v vx vz L M obs w' vz' := by
  rcases hp with rfl | rfl
  · exact (pop_nil wr now).mono fun e w' ⟨he, hb⟩ => ⟨he, vz, Nb.of_below h hb⟩
  · exact (pop_any h.n (by simp) now).mono fun e w' ⟨he, _, v', hs⟩ => ⟨he rfl, v', Nb.of_step h hs⟩
theorem nb_first (h : Pl w wr s x z most v vx vz L M obs) (hp : p = none ∨ p = some ⟨z, 0, none⟩) (now : Int) :
    Calls Try.prog 19 #[.pointer p, .int .i64 now] wr fun e w' => e = .returned (.tuple #[mg0.val, .bool false]) ∧ ∃ vz', Nb w wr s x z most v vx vz L M obs w' vz' := by
  rcases hp with rfl | rfl
  · exact (first_nil wr now).mono fun e w' ⟨he, hb⟩ => ⟨he, vz, Nb.of_below h hb⟩
  · exact (first_any h.n (by simp) now).mono fun e w' ⟨he, _, v', hs⟩ => ⟨he rfl, v', Nb.of_step h hs⟩
theorem nb_push (h : Pl w wr s x z most v vx vz L M obs) (hp : p = none ∨ p = some ⟨z, 0, none⟩) (m : Mg) (hm : Ok w.heap.size wr m) :
    Calls Try.prog 13 #[.pointer p, m.val] wr fun e w' => e = .returned (.bool false) ∧ ∃ vz', Nb w wr s x z most v vx vz L M obs w' vz' := by
  rcases hp with rfl | rfl
  · exact (push_nil wr m).mono fun e w' ⟨he, hb⟩ => ⟨he, vz, Nb.of_below h hb⟩
  · refine (push_full h.n (by simp) m hm (by simp)).mono ?_
    rintro e w' ⟨he, v', L', hs, hL⟩
    obtain rfl : L' = [] := by simpa using hL
    exact ⟨he, v', Nb.of_step h hs⟩
theorem nb_expire (h : Pl w wr s x z most v vx vz L M obs) (hp : p = none ∨ p = some ⟨z, 0, none⟩) (now : Int) :
    Calls Try.prog 21 #[.pointer p, .int .i64 now] wr fun e w' => e = .returned (.int .i64 0) ∧ ∃ vz', Nb w wr s x z most v vx vz L M obs w' vz' := by
  rcases hp with rfl | rfl
  · exact (expire_nil wr now).mono fun e w' ⟨he, hb⟩ => ⟨he, vz, Nb.of_below h hb⟩
  · exact (expire_any h.n (by simp) now).mono fun e w' ⟨he, v', hs⟩ => ⟨he, v', Nb.of_step h hs⟩
theorem nb_len (h : Pl w wr s x z most v vx vz L M obs) (hp : p = none ∨ p = some ⟨z, 0, none⟩) : Calls Try.prog 15 #[.pointer p] wr fun e w' => e = .returned (.int .i64 0) ∧ wr = w' := by
  rcases hp with rfl | rfl
  · exact len_nil wr
  · exact len_any h.n
theorem nb_all (h : Pl w wr s x z most v vx vz L M obs) (hp : p = none ∨ p = some ⟨z, 0, none⟩) : Calls Try.prog 24 #[.pointer p] wr fun e w' => (∃ A c, e = .returned (.slice A 0 c)) ∧ Below wr.heap.size wr w' := by
  rcases hp with rfl | rfl
  · exact (all_nil wr).mono fun e w' ⟨he, hw⟩ => ⟨⟨_, _, he⟩, by rw [← hw]; exact Below.refl _ _⟩
  · refine (all_any h.n (by simp)).mono ?_
    rintro e w' ⟨⟨v', rfl, hR, -⟩, hb⟩
    obtain ⟨A, c, rfl, -⟩ := rd_own hR
    exact ⟨⟨A, c, rfl⟩, hb⟩
end
theorem ans_pair {L M : List Mg} {now : Int} {a b : Mg} {ok ok2 : Bool} (h : L.map bare = M.map bare) (ha : (bare a, ok) = ans L now) (hb : (bare b, ok2) = ans M now) : Sim a b ∧ ok = ok2 := by
  rw [ans_bare h, ← hb] at ha
  injection ha with h1 h2
  exact ⟨sim_of h1, h2⟩
theorem drop_le (L : List Mg) (now : Int) : (L.dropWhile fun m => come m now).length ≤ L.length := (List.dropWhile_suffix (l := L) fun m => come m now).length_le
set_option maxRecDepth 100000 in
set_option maxHeartbeats 16000000 in
theorem plays_law (w : World) (most : Int) (A : Option Addr) (len cap : Nat) (l : List Act_) (hmost : (Lit.int .i64 most).wf = true) (hl : l.length = len ∧ SliceIs kAct w A l) :
    Calls Try.prog 5 #[.int .i64 most, .slice A len cap] w fun e w' => e = .returned (.bool true) ∧ Below w.heap.size w w' := by
  obtain ⟨rfl, hS⟩ := hl
  have hlen := hS.len
  unfold maxLen at hlen
  have HR := Lib.hid (rd_acts hS)
  have HO := Lib.hid (fun k m (hm : l[k]? = some m) => acts_ok hS hm)
  have HF := Lib.hid (few_any w A cap l hS)
  clear hS hmost
  go_enter Try.func5, Try.ntmps5
  go_wp2_with fail
  refine HF.out.mono ?_
  rintro e w1 ⟨⟨fb, rfl, hfew⟩, hb⟩
  cases fb with
  | false =>
    have HB1 := Lib.hid hb
    clear hfew hb
    go_wp2_with fail
    refine (awake_any _).mono ?_
    rintro e wz ⟨rfl, hb⟩
    have HBZ := Lib.hid (HB1.out.trans (hb.mono HB1.out.size))
    clear hb
    go_wp2_with fail
    go_ret
    exact ⟨rfl, HBZ.out⟩
  | true =>
    obtain ⟨h40, h70⟩ := hfew rfl
    have H70 := Lib.hid h70
    have HB1 := Lib.hid hb
    clear hfew hb h70
    go_wp2_with fail
    refine (new_any w1 most w.heap.size HB1.out.size).mono ?_
    rintro e w2 ⟨rfl, hq, hb2⟩
    have HPL := Lib.hid (show Pl w (((w2.alloc (.cells #[.int .i64 most, .slice none 0 0] 41)).alloc (.cells #[.int .i64 0, .slice none 0 0] 43)).alloc (.cells #[.pointer none, .pointer (some ⟨w2.heap.size + 1, 0, none⟩)] 32)) w1.heap.size w2.heap.size (w2.heap.size + 1) most (.slice none 0 0) (.slice none 0 0) (.slice none 0 0) [] [] [(w2.heap.size + 1 + 1, #[.pointer none, .pointer (some ⟨w2.heap.size + 1, 0, none⟩)], 32)] by
      have s1 : (w2.alloc (.cells #[.int .i64 most, .slice none 0 0] 41)).heap.size = w2.heap.size + 1 := by simp
      have s2 : ((w2.alloc (.cells #[.int .i64 most, .slice none 0 0] 41)).alloc (.cells #[.int .i64 0, .slice none 0 0] 43)).heap.size = w2.heap.size + 1 + 1 := by simp
      have b1 := alloc_below w2 (.cells #[.int .i64 most, .slice none 0 0] 41)
      have b2 := alloc_below (w2.alloc (.cells #[.int .i64 most, .slice none 0 0] 41)) (.cells #[.int .i64 0, .slice none 0 0] 43)
      have b3 := alloc_below ((w2.alloc (.cells #[.int .i64 most, .slice none 0 0] 41)).alloc (.cells #[.int .i64 0, .slice none 0 0] 43)) (.cells #[.pointer none, .pointer (some ⟨w2.heap.size + 1, 0, none⟩)] 32)
      have z1 := heap_alloc_new w2 (.cells #[.int .i64 most, .slice none 0 0] 41)
      have z2 := heap_alloc_new (w2.alloc (.cells #[.int .i64 most, .slice none 0 0] 41)) (.cells #[.int .i64 0, .slice none 0 0] 43)
      have z3 := heap_alloc_new ((w2.alloc (.cells #[.int .i64 most, .slice none 0 0] 41)).alloc (.cells #[.int .i64 0, .slice none 0 0] 43)) (.cells #[.pointer none, .pointer (some ⟨w2.heap.size + 1, 0, none⟩)] 32)
      rw [s1] at z2
      rw [s2] at z3
      have bb : Below w2.heap.size w2 (((w2.alloc (.cells #[.int .i64 most, .slice none 0 0] 41)).alloc (.cells #[.int .i64 0, .slice none 0 0] 43)).alloc (.cells #[.pointer none, .pointer (some ⟨w2.heap.size + 1, 0, none⟩)] 32)) := (b1.trans (b2.mono b1.size)).trans (b3.mono (b1.trans (b2.mono b1.size)).size)
      have hs1 := HB1.out.size
      have hs2 := hb2.size
      have hlt := lt_of_block hq.st
      refine ⟨hq.below bb, ⟨(b3.block _ (by rw [s2]; omega)).trans ((b2.block _ (by rw [s1]; omega)).trans z1), Win.nil _, by simp, by omega, by intro g hg; simp [Value.ownBlock] at hg⟩, ⟨(b3.block _ (by rw [s2]; omega)).trans z2, Win.nil _, by simp, by omega, by intro g hg; simp [Value.ownBlock] at hg⟩, Stp.of_below (HB1.out.trans ((hb2.trans (bb.mono hb2.size)).mono HB1.out.size)), by omega, by intro g hg; simp [Value.ownBlock] at hg, by intro g hg; simp [Value.ownBlock] at hg, by intro g hg; simp [Value.ownBlock] at hg, ?_⟩
      intro o ho
      obtain rfl := List.mem_singleton.1 ho
      exact ⟨z3, (show (32 : TypeId) ≠ 24 by decide), (show (32 : TypeId) ≠ 41 by decide), (show (32 : TypeId) ≠ 43 by decide)⟩)
    clear hq hb2
    go_wp2_with fail
    go_loopw [8] (fun i wr => ∃ (k : Nat) (v vx vz : Value) (L M : List Mg), k ≤ l.length ∧ i = .int .i64 k ∧ Pl w wr w1.heap.size w2.heap.size (w2.heap.size + 1) most v vx vz L M [(w2.heap.size + 1 + 1, #[.pointer none, .pointer (some ⟨w2.heap.size + 1, 0, none⟩)], 32)] ∧ L.map bare = M.map bare ∧ L.length ≤ k) (fun i _ => l.length - (intOf i).toNat)
    case atStart => exact ⟨0, _, _, _, [], [], by omega, rfl, HPL.out, rfl, Nat.le_refl _⟩
    case round =>
      obtain ⟨k, v, vx, vz, L, M, hk, rfl, hpl, hLM, hLk⟩ := hrel
      obtain ⟨wo, hwo⟩ : ∃ wo : World, wo = wr := ⟨_, rfl⟩
      subst hwo
      by_cases hlt : k < l.length
      · obtain ⟨x, hx⟩ : ∃ x, l[k]? = some x := ⟨_, List.getElem?_eq_getElem hlt⟩
        obtain ⟨b, off, rfl, c0, c1, c2, c3, c4, c5, c6, c7, c8, c9, c10⟩ := rd_act (HR.out.below hpl.bw) hx
        have hxo := HO.out k x hx
        have hok := (ok_of hxo.2 (H70.out k x hx)).stp hpl.stp
        have hb3 := alloc_below wo (.cells #[.int .i64 x.kind, .string x.msg.topic, .string x.msg.payload, .int .i64 x.msg.qos, .bool x.msg.retain, .slice x.msg.pA x.msg.props.length x.msg.pc, .string x.msg.from_, .int .i64 x.msg.until_, .int .i64 x.msg.seq, .string x.msg.group, .int .i64 x.now] 46)
        have hx3 := heap_alloc_new wo (.cells #[.int .i64 x.kind, .string x.msg.topic, .string x.msg.payload, .int .i64 x.msg.qos, .bool x.msg.retain, .slice x.msg.pA x.msg.props.length x.msg.pc, .string x.msg.from_, .int .i64 x.msg.until_, .int .i64 x.msg.seq, .string x.msg.group, .int .i64 x.now] 46)
        obtain ⟨w3, hw3⟩ : ∃ w3, w3 = wo.alloc (.cells #[.int .i64 x.kind, .string x.msg.topic, .string x.msg.payload, .int .i64 x.msg.qos, .bool x.msg.retain, .slice x.msg.pA x.msg.props.length x.msg.pc, .string x.msg.from_, .int .i64 x.msg.until_, .int .i64 x.msg.seq, .string x.msg.group, .int .i64 x.now] 46) := ⟨_, rfl⟩
        have HW3 := Lib.hid hw3
        rw [← hw3] at hb3 hx3
        have HP3 := Lib.hid ((hpl.below hb3).add hx3 (by decide) (by decide) (by decide))
        have HOK := Lib.hid (fun W (st : Stp w.heap.size w W) => (ok_of hxo.2 (H70.out k x hx)).stp st)
        have HLM := Lib.hid hLM
        have HLL := Lib.hid (show M.length = L.length by have := congrArg List.length hLM; simpa using this.symm)
        have HNW := Lib.hid hxo.1
        clear hx hxo hok hb3 hw3 hpl hLM
        go_upto_region 9 with (fail)
        rw [← HW3.out]
        clear HW3 c0 c1 c2 c3 c4 c5 c6 c7 c8 c9 c10
        have a0 : w3.cell? ⟨wo.heap.size, 0, none⟩ = some (.int .i64 x.kind) := cell_of hx3 rfl
        have a10 : w3.cell? ⟨wo.heap.size, 10, none⟩ = some (.int .i64 x.now) := cell_of hx3 rfl
        clear hx3
        go_upto_block 2 with (fail)
        go_cut [46] (fun _ wx => ∃ v' vx' L' M', Pl w wx w1.heap.size w2.heap.size (w2.heap.size + 1) most v' vx' vz L' M' [(wo.heap.size, #[.int .i64 x.kind, .string x.msg.topic, .string x.msg.payload, .int .i64 x.msg.qos, .bool x.msg.retain, .slice x.msg.pA x.msg.props.length x.msg.pc, .string x.msg.from_, .int .i64 x.msg.until_, .int .i64 x.msg.seq, .string x.msg.group, .int .i64 x.now], 46), (w2.heap.size + 1 + 1, #[.pointer none, .pointer (some ⟨w2.heap.size + 1, 0, none⟩)], 32)] ∧ L'.map bare = M'.map bare ∧ L'.length ≤ k + 1)
        case first =>
          by_cases k1 : x.kind = 1
          case pos =>
            as_aux_lemma =>
              have e1 : (x.kind == 1) = true := by rw [k1]; rfl
              obtain ⟨S, hSdef⟩ : ∃ S : World → Prop, S = fun u => u.heap[wo.heap.size]? = some (.cells #[.int .i64 x.kind, .string x.msg.topic, .string x.msg.payload, .int .i64 x.msg.qos, .bool x.msg.retain, .slice x.msg.pA x.msg.props.length x.msg.pc, .string x.msg.from_, .int .i64 x.msg.until_, .int .i64 x.msg.seq, .string x.msg.group, .int .i64 x.now] 46 (0, 0)) ∧ u.heap[w2.heap.size + 1 + 1]? = some (.cells #[.pointer none, .pointer (some ⟨w2.heap.size + 1, 0, none⟩)] 32 (0, 0)) := ⟨_, rfl⟩
              have HSP := Lib.hid (show ∀ u v1 vx1 vz1 L1 M1, Pl w u w1.heap.size w2.heap.size (w2.heap.size + 1) most v1 vx1 vz1 L1 M1 [(wo.heap.size, #[.int .i64 x.kind, .string x.msg.topic, .string x.msg.payload, .int .i64 x.msg.qos, .bool x.msg.retain, .slice x.msg.pA x.msg.props.length x.msg.pc, .string x.msg.from_, .int .i64 x.msg.until_, .int .i64 x.msg.seq, .string x.msg.group, .int .i64 x.now], 46), (w2.heap.size + 1 + 1, #[.pointer none, .pointer (some ⟨w2.heap.size + 1, 0, none⟩)], 32)] → S u by
                intro u v1 vx1 vz1 L1 M1 h
                rw [hSdef]
                exact ⟨(h.ob (wo.heap.size, #[.int .i64 x.kind, .string x.msg.topic, .string x.msg.payload, .int .i64 x.msg.qos, .bool x.msg.retain, .slice x.msg.pA x.msg.props.length x.msg.pc, .string x.msg.from_, .int .i64 x.msg.until_, .int .i64 x.msg.seq, .string x.msg.group, .int .i64 x.now], 46) (by simp)).1, (h.ob (w2.heap.size + 1 + 1, #[.pointer none, .pointer (some ⟨w2.heap.size + 1, 0, none⟩)], 32) (by simp)).1⟩)
              have hbx := fun n : Wd S => (show n.w.heap[wo.heap.size]? = some (.cells #[.int .i64 x.kind, .string x.msg.topic, .string x.msg.payload, .int .i64 x.msg.qos, .bool x.msg.retain, .slice x.msg.pA x.msg.props.length x.msg.pc, .string x.msg.from_, .int .i64 x.msg.until_, .int .i64 x.msg.seq, .string x.msg.group, .int .i64 x.now] 46 (0, 0)) by
                obtain ⟨u, hu⟩ := n
                rw [hSdef] at hu
                exact hu.1)
              have hbn := fun n : Wd S => (show n.w.heap[w2.heap.size + 1 + 1]? = some (.cells #[.pointer none, .pointer (some ⟨w2.heap.size + 1, 0, none⟩)] 32 (0, 0)) by
                obtain ⟨u, hu⟩ := n
                rw [hSdef] at hu
                exact hu.2)
              have q0 := fun n : Wd S => cell_of (hbx n) (o := 0) (v := .int .i64 x.kind) rfl
              have q1 := fun n : Wd S => cell_of (hbx n) (o := 1) (v := .string x.msg.topic) rfl
              have q2 := fun n : Wd S => cell_of (hbx n) (o := 2) (v := .string x.msg.payload) rfl
              have q3 := fun n : Wd S => cell_of (hbx n) (o := 3) (v := .int .i64 x.msg.qos) rfl
              have q4 := fun n : Wd S => cell_of (hbx n) (o := 4) (v := .bool x.msg.retain) rfl
              have q5 := fun n : Wd S => cell_of (hbx n) (o := 5) (v := .slice x.msg.pA x.msg.props.length x.msg.pc) rfl
              have q6 := fun n : Wd S => cell_of (hbx n) (o := 6) (v := .string x.msg.from_) rfl
              have q7 := fun n : Wd S => cell_of (hbx n) (o := 7) (v := .int .i64 x.msg.until_) rfl
              have q8 := fun n : Wd S => cell_of (hbx n) (o := 8) (v := .int .i64 x.msg.seq) rfl
              have q9 := fun n : Wd S => cell_of (hbx n) (o := 9) (v := .string x.msg.group) rfl
              have q10 := fun n : Wd S => cell_of (hbx n) (o := 10) (v := .int .i64 x.now) rfl
              clear hSdef hbx
              clear hbn
              have HPD := Lib.hid (HP3.out.below (below_drewN (Below.refl w3.heap.size w3) 1))
              have hS1 : S w3.drew := HSP.out _ _ _ _ _ _ HPD.out
              have hNS : Nonempty (Wd S) := ⟨⟨_, hS1⟩⟩
              go_upto_region 11 with (fail)
              clear a0 a10
              refine wp_region_G (n := 9) S rfl (by kernel_rfl) hS1 (fun hS => ?_)
              refine wpAnyG_seg (fuel := 3) [0, 1, 4, 5, 2, 6] rfl rfl (by kernel_rfl) (fun _ _ d _ _ h => by cases d <;> exact h) hS ?_
              repeat (go_big_quiet_step (fail))
              refine wpQuiet_nil ?_
              clear q0 q1 q2 q3 q4 q5 q6 q7 q8 q9 q10
              refine wpAnyG_alone (fuel := 2) 3 (by kernel_rfl) rfl hS (fun K hK => ?_)
              go_simp
              refine (push_any HPD.out.q (by omega) x.msg (HOK.out _ HPD.out.stp)).mono ?_
              rintro e w4 ⟨v', L', rfl, hst, hL'⟩
              have HP4 := Lib.hid (HPD.out.stepq hst)
              have HL' := Lib.hid hL'
              clear hst hL'
              go_wp2_with fail
              refine hK.out S _ _ (fun _ h => h) (HSP.out _ _ _ _ _ _ HP4.out) (fun hS => ?_)
              clear hK K
              refine wpAnyG_alone (fuel := 1) 7 (by kernel_rfl) rfl hS (fun K hK => ?_)
              go_simp
              refine (rpush_any HP4.out.r (by have := HLL.out; omega) x.msg (HOK.out _ HP4.out.stp)).mono ?_
              rintro e w5 ⟨vx', M', rfl, hst, hM'⟩
              have HP5 := Lib.hid (HP4.out.stepr hst)
              rw [HLL.out] at hM' ⊢
              have HE := Lib.hid (show L'.map bare = M'.map bare ∧ L'.length ≤ k + 1 by
                rw [hM', HL'.out]
                have h9 := congrArg List.length HL'.out
                split
                · rename_i hc
                  rw [if_pos hc] at h9
                  simp at h9
                  exact ⟨by rw [HLM.out], by omega⟩
                · rename_i hc
                  rw [if_neg hc] at h9
                  simp at h9
                  exact ⟨HLM.out, by omega⟩)
              clear hst hM'
              generalize decide ((L.length : Int) < most) = bb
              go_wp2_with fail
              refine hK.out S _ _ (fun _ h => h) (HSP.out _ _ _ _ _ _ HP5.out) (fun hS => ?_)
              clear hK K
              refine wpAnyG_seg (fuel := 0) [8] rfl rfl (by kernel_rfl) (fun _ _ d _ _ h => by cases d <;> exact h) hS ?_
              repeat (go_big_quiet_step (fail))
              refine wpQuiet_nil ?_
              refine wpAnyG_end (by kernel_rfl) ?_
              clear hS hNS hS1
              go_wp2_with fail
              go_meet
              exact ⟨_, _, L', M', HP5.out, HE.out.1, HE.out.2⟩
          by_cases k2 : x.kind = 2
          case pos =>
            as_aux_lemma =>
              have e1 : (x.kind == 1) = false := beq_eq_false_iff_ne.2 k1
              have e2 : (x.kind == 2) = true := by rw [k2]; rfl
              go_wp2_with fail
              refine (pop_any HP3.out.q (by omega) x.now).mono ?_
              rintro e w4 hf
              obtain ⟨a, ok, rfl, ha, hra, v', hst⟩ := first_form hf
              simp only [if_true] at hst
              have hp4 := HP3.out.stepq hst
              have HVX := Lib.hid (fun g hg => hp4.r.win.lt (g := g) hg)
              have hb5 := alloc_below w4 (.cells #[.string a.topic, .string a.payload, .int .i64 a.qos, .bool a.retain, .slice a.pA a.props.length a.pc, .string a.from_, .int .i64 a.until_, .int .i64 a.seq, .string a.group] 24)
              have hx5 := heap_alloc_new w4 (.cells #[.string a.topic, .string a.payload, .int .i64 a.qos, .bool a.retain, .slice a.pA a.props.length a.pc, .string a.from_, .int .i64 a.until_, .int .i64 a.seq, .string a.group] 24)
              obtain ⟨w5, hw5⟩ : ∃ w5, w5 = w4.alloc (.cells #[.string a.topic, .string a.payload, .int .i64 a.qos, .bool a.retain, .slice a.pA a.props.length a.pc, .string a.from_, .int .i64 a.until_, .int .i64 a.seq, .string a.group] 24) := ⟨_, rfl⟩
              have HW5 := Lib.hid hw5
              rw [← hw5] at hb5 hx5
              have HP5 := Lib.hid (hp4.below hb5)
              have HA := Lib.hid ha
              have HRA := Lib.hid (hra.below hb5)
              have HX5 := Lib.hid hx5
              have g10 : w5.cell? ⟨wo.heap.size, 10, none⟩ = some (.int .i64 x.now) := cell_of (HP5.out.ob (wo.heap.size, #[.int .i64 x.kind, .string x.msg.topic, .string x.msg.payload, .int .i64 x.msg.qos, .bool x.msg.retain, .slice x.msg.pA x.msg.props.length x.msg.pc, .string x.msg.from_, .int .i64 x.msg.until_, .int .i64 x.msg.seq, .string x.msg.group, .int .i64 x.now], 46) (by simp)).1 rfl
              unfold Mg.val
              clear hf ha hra hst hp4 hb5 hx5 hw5 a0 a10
              go_upto_region 15 with (fail)
              rw [← HW5.out]
              clear HW5
              go_wp2_with fail
              refine (rpop_any HP5.out.r (by have := HLL.out; omega) x.now).mono ?_
              rintro e w6 hf
              obtain ⟨b, ok2, rfl, hbb, hrb, vx', hst⟩ := first_form hf
              simp only [if_true] at hst
              obtain ⟨hsim, rfl⟩ := ans_pair HLM.out HA.out hbb
              have hp6 := HP5.out.stepr hst
              have hx6 := (hst.tch.block w4.heap.size (lt_of_block HX5.out) (by
                intro hm
                rcases List.mem_cons.1 hm with e | hm
                · have := HP5.out.r.st
                  rw [← e, HX5.out] at this; injection this with this; injection this with _ this; exact absurd this (by decide)
                · have := HVX.out _ (by simpa using hm); omega)).trans HX5.out
              have hra6 := HRA.out.stp hst.stp
              have hb7 := alloc_below w6 (.cells #[.string b.topic, .string b.payload, .int .i64 b.qos, .bool b.retain, .slice b.pA b.props.length b.pc, .string b.from_, .int .i64 b.until_, .int .i64 b.seq, .string b.group] 24)
              have hx7 := heap_alloc_new w6 (.cells #[.string b.topic, .string b.payload, .int .i64 b.qos, .bool b.retain, .slice b.pA b.props.length b.pc, .string b.from_, .int .i64 b.until_, .int .i64 b.seq, .string b.group] 24)
              obtain ⟨w7, hw7⟩ : ∃ w7, w7 = w6.alloc (.cells #[.string b.topic, .string b.payload, .int .i64 b.qos, .bool b.retain, .slice b.pA b.props.length b.pc, .string b.from_, .int .i64 b.until_, .int .i64 b.seq, .string b.group] 24) := ⟨_, rfl⟩
              have HW7 := Lib.hid hw7
              rw [← hw7] at hb7 hx7
              have HP7 := Lib.hid (hp6.below hb7)
              have HX6 := Lib.hid ((hb7.block _ (lt_of_block hx6)).trans hx6)
              have HX7 := Lib.hid hx7
              have HSM := Lib.hid (samem_any a b hsim w7 (hra6.below hb7).rd (hrb.below hb7).rd (by have := HRA.out.few; omega))
              have HLE := Lib.hid (show (L.dropWhile fun m => come m x.now).tail.map bare = (M.dropWhile fun m => come m x.now).tail.map bare ∧ (L.dropWhile fun m => come m x.now).tail.length ≤ k + 1 by
                have h1 : (L.dropWhile fun m => come m x.now).map bare = (M.dropWhile fun m => come m x.now).map bare := by rw [drop_map, drop_map, HLM.out]
                have h2 := drop_le L x.now
                exact ⟨by rw [List.map_tail, List.map_tail, h1], by rw [List.length_tail]; omega⟩)
              unfold Mg.val at HSM
              unfold Mg.val
              clear hf hbb hrb hst hsim hp6 hx6 hra6 hb7 hx7 hw7 g10
              have x0 : w7.cell? ⟨w4.heap.size, 0, none⟩ = some (.string a.topic) := cell_of HX6.out rfl
              have x1 : w7.cell? ⟨w4.heap.size, 1, none⟩ = some (.string a.payload) := cell_of HX6.out rfl
              have x2 : w7.cell? ⟨w4.heap.size, 2, none⟩ = some (.int .i64 a.qos) := cell_of HX6.out rfl
              have x3 : w7.cell? ⟨w4.heap.size, 3, none⟩ = some (.bool a.retain) := cell_of HX6.out rfl
              have x4 : w7.cell? ⟨w4.heap.size, 4, none⟩ = some (.slice a.pA a.props.length a.pc) := cell_of HX6.out rfl
              have x5 : w7.cell? ⟨w4.heap.size, 5, none⟩ = some (.string a.from_) := cell_of HX6.out rfl
              have x6 : w7.cell? ⟨w4.heap.size, 6, none⟩ = some (.int .i64 a.until_) := cell_of HX6.out rfl
              have x7 : w7.cell? ⟨w4.heap.size, 7, none⟩ = some (.int .i64 a.seq) := cell_of HX6.out rfl
              have x8 : w7.cell? ⟨w4.heap.size, 8, none⟩ = some (.string a.group) := cell_of HX6.out rfl
              have y0 : w7.cell? ⟨w6.heap.size, 0, none⟩ = some (.string b.topic) := cell_of HX7.out rfl
              have y1 : w7.cell? ⟨w6.heap.size, 1, none⟩ = some (.string b.payload) := cell_of HX7.out rfl
              have y2 : w7.cell? ⟨w6.heap.size, 2, none⟩ = some (.int .i64 b.qos) := cell_of HX7.out rfl
              have y3 : w7.cell? ⟨w6.heap.size, 3, none⟩ = some (.bool b.retain) := cell_of HX7.out rfl
              have y4 : w7.cell? ⟨w6.heap.size, 4, none⟩ = some (.slice b.pA b.props.length b.pc) := cell_of HX7.out rfl
              have y5 : w7.cell? ⟨w6.heap.size, 5, none⟩ = some (.string b.from_) := cell_of HX7.out rfl
              have y6 : w7.cell? ⟨w6.heap.size, 6, none⟩ = some (.int .i64 b.until_) := cell_of HX7.out rfl
              have y7 : w7.cell? ⟨w6.heap.size, 7, none⟩ = some (.int .i64 b.seq) := cell_of HX7.out rfl
              have y8 : w7.cell? ⟨w6.heap.size, 8, none⟩ = some (.string b.group) := cell_of HX7.out rfl
              go_upto_region 16 with (fail)
              rw [← HW7.out]
              clear HW7
              go_wp2_with fail
              refine HSM.out.mono ?_
              rintro e w8 ⟨rfl, hb⟩
              have HP8 := Lib.hid (HP7.out.below hb)
              clear hb x0 y0 x1 y1 x2 y2 x3 y3 x4 y4 x5 y5 x6 y6 x7 y7 x8 y8
              go_wp2_with fail
              go_meet
              exact ⟨_, _, _, _, HP8.out, HLE.out.1, HLE.out.2⟩
          by_cases k4 : x.kind = 4
          case pos =>
            as_aux_lemma =>
              have e1 : (x.kind == 1) = false := beq_eq_false_iff_ne.2 k1
              have e2 : (x.kind == 2) = false := beq_eq_false_iff_ne.2 k2
              have e4 : (x.kind == 4) = true := by rw [k4]; rfl
              go_wp2_with fail
              refine (first_any HP3.out.q (by omega) x.now).mono ?_
              rintro e w4 hf
              obtain ⟨a, ok, rfl, ha, hra, v', hst⟩ := first_form hf
              simp only [Bool.false_eq_true, if_false] at hst
              have hp4 := HP3.out.stepq hst
              have HVX := Lib.hid (fun g hg => hp4.r.win.lt (g := g) hg)
              have hb5 := alloc_below w4 (.cells #[.string a.topic, .string a.payload, .int .i64 a.qos, .bool a.retain, .slice a.pA a.props.length a.pc, .string a.from_, .int .i64 a.until_, .int .i64 a.seq, .string a.group] 24)
              have hx5 := heap_alloc_new w4 (.cells #[.string a.topic, .string a.payload, .int .i64 a.qos, .bool a.retain, .slice a.pA a.props.length a.pc, .string a.from_, .int .i64 a.until_, .int .i64 a.seq, .string a.group] 24)
              obtain ⟨w5, hw5⟩ : ∃ w5, w5 = w4.alloc (.cells #[.string a.topic, .string a.payload, .int .i64 a.qos, .bool a.retain, .slice a.pA a.props.length a.pc, .string a.from_, .int .i64 a.until_, .int .i64 a.seq, .string a.group] 24) := ⟨_, rfl⟩
              have HW5 := Lib.hid hw5
              rw [← hw5] at hb5 hx5
              have HP5 := Lib.hid (hp4.below hb5)
              have HA := Lib.hid ha
              have HRA := Lib.hid (hra.below hb5)
              have HX5 := Lib.hid hx5
              have g10 : w5.cell? ⟨wo.heap.size, 10, none⟩ = some (.int .i64 x.now) := cell_of (HP5.out.ob (wo.heap.size, #[.int .i64 x.kind, .string x.msg.topic, .string x.msg.payload, .int .i64 x.msg.qos, .bool x.msg.retain, .slice x.msg.pA x.msg.props.length x.msg.pc, .string x.msg.from_, .int .i64 x.msg.until_, .int .i64 x.msg.seq, .string x.msg.group, .int .i64 x.now], 46) (by simp)).1 rfl
              unfold Mg.val
              clear hf ha hra hst hp4 hb5 hx5 hw5 a0 a10
              go_upto_region 20 with (fail)
              rw [← HW5.out]
              clear HW5
              go_wp2_with fail
              refine (rfirst_any HP5.out.r (by have := HLL.out; omega) x.now).mono ?_
              rintro e w6 hf
              obtain ⟨b, ok2, rfl, hbb, hrb, vx', hst⟩ := first_form hf
              simp only [Bool.false_eq_true, if_false] at hst
              obtain ⟨hsim, rfl⟩ := ans_pair HLM.out HA.out hbb
              have hp6 := HP5.out.stepr hst
              have hx6 := (hst.tch.block w4.heap.size (lt_of_block HX5.out) (by
                intro hm
                rcases List.mem_cons.1 hm with e | hm
                · have := HP5.out.r.st
                  rw [← e, HX5.out] at this; injection this with this; injection this with _ this; exact absurd this (by decide)
                · have := HVX.out _ (by simpa using hm); omega)).trans HX5.out
              have hra6 := HRA.out.stp hst.stp
              have hb7 := alloc_below w6 (.cells #[.string b.topic, .string b.payload, .int .i64 b.qos, .bool b.retain, .slice b.pA b.props.length b.pc, .string b.from_, .int .i64 b.until_, .int .i64 b.seq, .string b.group] 24)
              have hx7 := heap_alloc_new w6 (.cells #[.string b.topic, .string b.payload, .int .i64 b.qos, .bool b.retain, .slice b.pA b.props.length b.pc, .string b.from_, .int .i64 b.until_, .int .i64 b.seq, .string b.group] 24)
              obtain ⟨w7, hw7⟩ : ∃ w7, w7 = w6.alloc (.cells #[.string b.topic, .string b.payload, .int .i64 b.qos, .bool b.retain, .slice b.pA b.props.length b.pc, .string b.from_, .int .i64 b.until_, .int .i64 b.seq, .string b.group] 24) := ⟨_, rfl⟩
              have HW7 := Lib.hid hw7
              rw [← hw7] at hb7 hx7
              have HP7 := Lib.hid (hp6.below hb7)
              have HX6 := Lib.hid ((hb7.block _ (lt_of_block hx6)).trans hx6)
              have HX7 := Lib.hid hx7
              have HSM := Lib.hid (samem_any a b hsim w7 (hra6.below hb7).rd (hrb.below hb7).rd (by have := HRA.out.few; omega))
              have HLE := Lib.hid (show (L.dropWhile fun m => come m x.now).map bare = (M.dropWhile fun m => come m x.now).map bare ∧ (L.dropWhile fun m => come m x.now).length ≤ k + 1 by
                have h1 : (L.dropWhile fun m => come m x.now).map bare = (M.dropWhile fun m => come m x.now).map bare := by rw [drop_map, drop_map, HLM.out]
                have h2 := drop_le L x.now
                exact ⟨h1, by omega⟩)
              unfold Mg.val at HSM
              unfold Mg.val
              clear hf hbb hrb hst hsim hp6 hx6 hra6 hb7 hx7 hw7 g10
              have x0 : w7.cell? ⟨w4.heap.size, 0, none⟩ = some (.string a.topic) := cell_of HX6.out rfl
              have x1 : w7.cell? ⟨w4.heap.size, 1, none⟩ = some (.string a.payload) := cell_of HX6.out rfl
              have x2 : w7.cell? ⟨w4.heap.size, 2, none⟩ = some (.int .i64 a.qos) := cell_of HX6.out rfl
              have x3 : w7.cell? ⟨w4.heap.size, 3, none⟩ = some (.bool a.retain) := cell_of HX6.out rfl
              have x4 : w7.cell? ⟨w4.heap.size, 4, none⟩ = some (.slice a.pA a.props.length a.pc) := cell_of HX6.out rfl
              have x5 : w7.cell? ⟨w4.heap.size, 5, none⟩ = some (.string a.from_) := cell_of HX6.out rfl
              have x6 : w7.cell? ⟨w4.heap.size, 6, none⟩ = some (.int .i64 a.until_) := cell_of HX6.out rfl
              have x7 : w7.cell? ⟨w4.heap.size, 7, none⟩ = some (.int .i64 a.seq) := cell_of HX6.out rfl
              have x8 : w7.cell? ⟨w4.heap.size, 8, none⟩ = some (.string a.group) := cell_of HX6.out rfl
              have y0 : w7.cell? ⟨w6.heap.size, 0, none⟩ = some (.string b.topic) := cell_of HX7.out rfl
              have y1 : w7.cell? ⟨w6.heap.size, 1, none⟩ = some (.string b.payload) := cell_of HX7.out rfl
              have y2 : w7.cell? ⟨w6.heap.size, 2, none⟩ = some (.int .i64 b.qos) := cell_of HX7.out rfl
              have y3 : w7.cell? ⟨w6.heap.size, 3, none⟩ = some (.bool b.retain) := cell_of HX7.out rfl
              have y4 : w7.cell? ⟨w6.heap.size, 4, none⟩ = some (.slice b.pA b.props.length b.pc) := cell_of HX7.out rfl
              have y5 : w7.cell? ⟨w6.heap.size, 5, none⟩ = some (.string b.from_) := cell_of HX7.out rfl
              have y6 : w7.cell? ⟨w6.heap.size, 6, none⟩ = some (.int .i64 b.until_) := cell_of HX7.out rfl
              have y7 : w7.cell? ⟨w6.heap.size, 7, none⟩ = some (.int .i64 b.seq) := cell_of HX7.out rfl
              have y8 : w7.cell? ⟨w6.heap.size, 8, none⟩ = some (.string b.group) := cell_of HX7.out rfl
              go_upto_region 21 with (fail)
              rw [← HW7.out]
              clear HW7
              go_wp2_with fail
              refine HSM.out.mono ?_
              rintro e w8 ⟨rfl, hb⟩
              have HP8 := Lib.hid (HP7.out.below hb)
              clear hb x0 y0 x1 y1 x2 y2 x3 y3 x4 y4 x5 y5 x6 y6 x7 y7 x8 y8
              go_wp2_with fail
              go_meet
              exact ⟨_, _, _, _, HP8.out, HLE.out.1, HLE.out.2⟩
          by_cases k3 : x.kind = 3
          case pos =>
            as_aux_lemma =>
              have e1 : (x.kind == 1) = false := beq_eq_false_iff_ne.2 k1
              have e2 : (x.kind == 2) = false := beq_eq_false_iff_ne.2 k2
              have e4 : (x.kind == 4) = false := beq_eq_false_iff_ne.2 k4
              have e3 : (x.kind == 3) = true := by rw [k3]; rfl
              obtain ⟨S, hSdef⟩ : ∃ S : World → Prop, S = fun u => u.heap[wo.heap.size]? = some (.cells #[.int .i64 x.kind, .string x.msg.topic, .string x.msg.payload, .int .i64 x.msg.qos, .bool x.msg.retain, .slice x.msg.pA x.msg.props.length x.msg.pc, .string x.msg.from_, .int .i64 x.msg.until_, .int .i64 x.msg.seq, .string x.msg.group, .int .i64 x.now] 46 (0, 0)) ∧ u.heap[w2.heap.size + 1 + 1]? = some (.cells #[.pointer none, .pointer (some ⟨w2.heap.size + 1, 0, none⟩)] 32 (0, 0)) := ⟨_, rfl⟩
              have HSP := Lib.hid (show ∀ u v1 vx1 vz1 L1 M1, Pl w u w1.heap.size w2.heap.size (w2.heap.size + 1) most v1 vx1 vz1 L1 M1 [(wo.heap.size, #[.int .i64 x.kind, .string x.msg.topic, .string x.msg.payload, .int .i64 x.msg.qos, .bool x.msg.retain, .slice x.msg.pA x.msg.props.length x.msg.pc, .string x.msg.from_, .int .i64 x.msg.until_, .int .i64 x.msg.seq, .string x.msg.group, .int .i64 x.now], 46), (w2.heap.size + 1 + 1, #[.pointer none, .pointer (some ⟨w2.heap.size + 1, 0, none⟩)], 32)] → S u by
                intro u v1 vx1 vz1 L1 M1 h
                rw [hSdef]
                exact ⟨(h.ob (wo.heap.size, #[.int .i64 x.kind, .string x.msg.topic, .string x.msg.payload, .int .i64 x.msg.qos, .bool x.msg.retain, .slice x.msg.pA x.msg.props.length x.msg.pc, .string x.msg.from_, .int .i64 x.msg.until_, .int .i64 x.msg.seq, .string x.msg.group, .int .i64 x.now], 46) (by simp)).1, (h.ob (w2.heap.size + 1 + 1, #[.pointer none, .pointer (some ⟨w2.heap.size + 1, 0, none⟩)], 32) (by simp)).1⟩)
              have hbx := fun n : Wd S => (show n.w.heap[wo.heap.size]? = some (.cells #[.int .i64 x.kind, .string x.msg.topic, .string x.msg.payload, .int .i64 x.msg.qos, .bool x.msg.retain, .slice x.msg.pA x.msg.props.length x.msg.pc, .string x.msg.from_, .int .i64 x.msg.until_, .int .i64 x.msg.seq, .string x.msg.group, .int .i64 x.now] 46 (0, 0)) by
                obtain ⟨u, hu⟩ := n
                rw [hSdef] at hu
                exact hu.1)
              have hbn := fun n : Wd S => (show n.w.heap[w2.heap.size + 1 + 1]? = some (.cells #[.pointer none, .pointer (some ⟨w2.heap.size + 1, 0, none⟩)] 32 (0, 0)) by
                obtain ⟨u, hu⟩ := n
                rw [hSdef] at hu
                exact hu.2)
              have q0 := fun n : Wd S => cell_of (hbx n) (o := 0) (v := .int .i64 x.kind) rfl
              have q1 := fun n : Wd S => cell_of (hbx n) (o := 1) (v := .string x.msg.topic) rfl
              have q2 := fun n : Wd S => cell_of (hbx n) (o := 2) (v := .string x.msg.payload) rfl
              have q3 := fun n : Wd S => cell_of (hbx n) (o := 3) (v := .int .i64 x.msg.qos) rfl
              have q4 := fun n : Wd S => cell_of (hbx n) (o := 4) (v := .bool x.msg.retain) rfl
              have q5 := fun n : Wd S => cell_of (hbx n) (o := 5) (v := .slice x.msg.pA x.msg.props.length x.msg.pc) rfl
              have q6 := fun n : Wd S => cell_of (hbx n) (o := 6) (v := .string x.msg.from_) rfl
              have q7 := fun n : Wd S => cell_of (hbx n) (o := 7) (v := .int .i64 x.msg.until_) rfl
              have q8 := fun n : Wd S => cell_of (hbx n) (o := 8) (v := .int .i64 x.msg.seq) rfl
              have q9 := fun n : Wd S => cell_of (hbx n) (o := 9) (v := .string x.msg.group) rfl
              have q10 := fun n : Wd S => cell_of (hbx n) (o := 10) (v := .int .i64 x.now) rfl
              clear hSdef hbx
              clear hbn
              have HPD := Lib.hid (HP3.out.below (below_drewN (Below.refl w3.heap.size w3) 1))
              have hS1 : S w3.drew := HSP.out _ _ _ _ _ _ HPD.out
              have hNS : Nonempty (Wd S) := ⟨⟨_, hS1⟩⟩
              go_upto_region 24 with (fail)
              clear a0 a10
              refine wp_region_G (n := 9) S rfl (by kernel_rfl) hS1 (fun hS => ?_)
              refine wpAnyG_seg (fuel := 3) [0, 1, 4, 5, 2, 6] rfl rfl (by kernel_rfl) (fun _ _ d _ _ h => by cases d <;> exact h) hS ?_
              repeat (go_big_quiet_step (fail))
              refine wpQuiet_nil ?_
              clear q0 q1 q2 q3 q4 q5 q6 q7 q8 q9 q10
              refine wpAnyG_alone (fuel := 2) 3 (by kernel_rfl) rfl hS (fun K hK => ?_)
              go_simp
              refine (expire_any HPD.out.q (by omega) x.now).mono ?_
              rintro e w4 ⟨rfl, v', hst⟩
              have HP4 := Lib.hid (HPD.out.stepq hst)
              have HKM := Lib.hid (show ((L.filter fun m => !come m x.now).map bare = (M.filter fun m => !come m x.now).map bare) by rw [keep_map, keep_map, HLM.out])
              have HKE := Lib.hid (show (M.filter fun m => !come m x.now).length = (L.filter fun m => !come m x.now).length by have := congrArg List.length HKM.out; simpa using this.symm)
              have HKL := Lib.hid (List.length_filter_le (fun m => !come m x.now) L)
              clear hst
              go_wp2_with fail
              refine hK.out S _ _ (fun _ h => h) (HSP.out _ _ _ _ _ _ HP4.out) (fun hS => ?_)
              clear hK K
              refine wpAnyG_alone (fuel := 1) 7 (by kernel_rfl) rfl hS (fun K hK => ?_)
              go_simp
              refine (rexpire_any HP4.out.r (by have := HLL.out; omega) x.now).mono ?_
              rintro e w5 ⟨rfl, vx', hst⟩
              have HP5 := Lib.hid (HP4.out.stepr hst)
              rw [HLL.out, HKE.out]
              have HE := Lib.hid (show (L.filter fun m => !come m x.now).length ≤ k + 1 by have := HKL.out; omega)
              clear hst
              generalize ((L.length : Int) - ((L.filter fun m => !come m x.now).length : Int)) = nn
              go_wp2_with fail
              refine hK.out S _ _ (fun _ h => h) (HSP.out _ _ _ _ _ _ HP5.out) (fun hS => ?_)
              clear hK K
              refine wpAnyG_seg (fuel := 0) [8] rfl rfl (by kernel_rfl) (fun _ _ d _ _ h => by cases d <;> exact h) hS ?_
              repeat (go_big_quiet_step (fail))
              refine wpQuiet_nil ?_
              refine wpAnyG_end (by kernel_rfl) ?_
              clear hS hNS hS1
              go_wp2_with fail
              go_meet
              exact ⟨_, _, _, _, HP5.out, HKM.out, HE.out⟩
          have e1 : (x.kind == 1) = false := beq_eq_false_iff_ne.2 k1
          have e2 : (x.kind == 2) = false := beq_eq_false_iff_ne.2 k2
          have e4 : (x.kind == 4) = false := beq_eq_false_iff_ne.2 k4
          have e3 : (x.kind == 3) = false := beq_eq_false_iff_ne.2 k3
          go_wp2_with fail
          go_meet
          exact ⟨v, vx, L, M, HP3.out, HLM.out, by omega⟩
        case rest =>
          obtain ⟨v', vx', L', M', hp, hLM, hLk2⟩ := hcut
          obtain ⟨wy, hwy⟩ : ∃ wy : World, wy = wc := ⟨_, rfl⟩
          subst hwy
          have hl2 : M'.length = L'.length := by have := congrArg List.length hLM; simpa using this.symm
          have HL2 := Lib.hid hl2
          have HLM2 := Lib.hid hLM
          have HP := Lib.hid hp
          obtain ⟨Ax, cx, hvx, hrdx⟩ := hp.r.win.rd
          rw [hl2] at hvx
          have HVX := Lib.hid hvx
          have HRDX := Lib.hid hrdx
          have r1 := fun n : Wd (Gr wy) => n.cell (cell_of hp.r.st (o := 1) (v := .slice Ax L'.length cx) (by rw [hvx]; rfl))
          clear hl2 hLM hp hvx hrdx
          clear a0 a10 HLM HLL
          go_upto_region 26 with (fail)
          refine wp_region_G (n := 18) (Gr wy) rfl (by kernel_rfl) (gr_drew wy) (fun hS => ?_)
          refine wpAnyG_seg (fuel := 12) [0, 2, 3, 4, 5, 6] rfl rfl (by kernel_rfl) (fun _ _ d _ _ h => by cases d <;> exact h) hS ?_
          repeat (go_big_quiet_step (fail))
          refine wpQuiet_nil ?_
          refine wpAnyG_alone (fuel := 11) 1 (by kernel_rfl) rfl hS (fun K hK => ?_)
          go_simp
          refine (len_any (HP.out.below hS).q).mono ?_
          rintro e w4 ⟨rfl, rfl⟩
          go_wp2_with fail
          refine hK.out (Gr wy) _ _ (fun _ h => h) hS (fun hS => ?_)
          clear hK K
          refine wpAnyG_seg (fuel := 4) [7, 8, 9, 11, 12, 13, 14] rfl rfl (by kernel_rfl) (fun _ _ d _ _ h => by cases d <;> exact h) hS ?_
          repeat (go_big_quiet_step (fail))
          refine wpQuiet_nil ?_
          clear r1
          refine wpAnyG_alone (fuel := 3) 10 (by kernel_rfl) rfl hS (fun K hK => ?_)
          go_simp
          refine (all_any (HP.out.below hS).q (by omega)).mono ?_
          rintro e w5 ⟨⟨vA, rfl, hR, hN⟩, hb⟩
          obtain ⟨A3, c3, rfl, hrd⟩ := rd_own hR
          have hs5 := hS.trans (hb.mono hS.size)
          have hp5 := HP.out.below hs5
          have hsame := same_any w5 A3 Ax c3 cx L' M' hrd (HRDX.out.below hs5) HLM2.out (by omega) (fun m hm => ⟨(hp5.q.ok m hm).rd, (hp5.q.ok m hm).few⟩) (fun m hm => (hp5.r.ok m hm).rd)
          rw [HL2.out] at hsame
          have HSA := Lib.hid hsame
          have HS5 := Lib.hid hs5
          clear hR hN hb hrd hs5 hp5 hsame
          go_wp2_with fail
          refine hK.out (Gr wy) _ _ (fun _ h => h) HS5.out (fun hS => ?_)
          clear hK K
          refine wpAnyG_alone (fuel := 2) 15 (by kernel_rfl) rfl hS (fun K hK => ?_)
          go_simp
          refine HSA.out.mono ?_
          rintro e w6 ⟨rfl, hb⟩
          have hs6 := HS5.out.trans (hb.mono HS5.out.size)
          have HS6 := Lib.hid hs6
          have HP6 := Lib.hid (HP.out.below hs6)
          clear hb hs6 HSA
          go_wp2_with fail
          refine hK.out (Gr wy) _ _ (fun _ h => h) HS6.out (fun hS => ?_)
          clear hK K
          refine wpAnyG_seg (fuel := 0) [16, 17] rfl rfl (by kernel_rfl) (fun _ _ d _ _ h => by cases d <;> exact h) hS ?_
          repeat (go_big_quiet_step (fail))
          refine wpQuiet_nil ?_
          refine wpAnyG_end (by kernel_rfl) ?_
          clear hS HS5 HS6 HP HVX HRDX
          go_wp2_with fail
          go_loopw [18] (fun y wr2 => ∃ (j : Nat) (vz' : Value), j ≤ 2 ∧ y = .int .i64 j ∧ Pl w wr2 w1.heap.size w2.heap.size (w2.heap.size + 1) most v' vx' vz' L' M' [(wo.heap.size, #[.int .i64 x.kind, .string x.msg.topic, .string x.msg.payload, .int .i64 x.msg.qos, .bool x.msg.retain, .slice x.msg.pA x.msg.props.length x.msg.pc, .string x.msg.from_, .int .i64 x.msg.until_, .int .i64 x.msg.seq, .string x.msg.group, .int .i64 x.now], 46), (w2.heap.size + 1 + 1, #[.pointer none, .pointer (some ⟨w2.heap.size + 1, 0, none⟩)], 32)]) (fun y _ => 2 - (intOf y).toNat)
          case atStart => exact ⟨0, vz, by omega, rfl, HP6.out⟩
          case round =>
            clear HP6
            obtain ⟨j, vz', hj, rfl, hpn⟩ := hrel
            obtain ⟨wi, hwi⟩ : ∃ wi : World, wi = wr := ⟨_, rfl⟩
            subst hwi
            have HPN0 := Lib.hid hpn
            by_cases hlj : j < 2
            · obtain ⟨p, hpj, hnbc⟩ : ∃ p : Option Addr, (p = none ∨ p = some ⟨w2.heap.size + 1, 0, none⟩) ∧ (#[.pointer none, .pointer (some ⟨w2.heap.size + 1, 0, none⟩)] : Array Value)[j]? = some (.pointer p) := by
                have : j = 0 ∨ j = 1 := by omega
                rcases this with rfl | rfl
                · exact ⟨none, .inl rfl, rfl⟩
                · exact ⟨some ⟨w2.heap.size + 1, 0, none⟩, .inr rfl, rfl⟩
              have HPJ := Lib.hid hpj
              have HNBC := Lib.hid hnbc
              have hj2 : (j : Int) < 2 := by omega
              clear hpj hnbc hpn
              obtain ⟨S, hSdef⟩ : ∃ S : World → Prop, S = fun u => u.heap[wo.heap.size]? = some (.cells #[.int .i64 x.kind, .string x.msg.topic, .string x.msg.payload, .int .i64 x.msg.qos, .bool x.msg.retain, .slice x.msg.pA x.msg.props.length x.msg.pc, .string x.msg.from_, .int .i64 x.msg.until_, .int .i64 x.msg.seq, .string x.msg.group, .int .i64 x.now] 46 (0, 0)) ∧ u.heap[w2.heap.size + 1 + 1]? = some (.cells #[.pointer none, .pointer (some ⟨w2.heap.size + 1, 0, none⟩)] 32 (0, 0)) := ⟨_, rfl⟩
              have HSP := Lib.hid (show ∀ u v1 vx1 vz1 L1 M1 (_ : Unit), Pl w u w1.heap.size w2.heap.size (w2.heap.size + 1) most v1 vx1 vz1 L1 M1 [(wo.heap.size, #[.int .i64 x.kind, .string x.msg.topic, .string x.msg.payload, .int .i64 x.msg.qos, .bool x.msg.retain, .slice x.msg.pA x.msg.props.length x.msg.pc, .string x.msg.from_, .int .i64 x.msg.until_, .int .i64 x.msg.seq, .string x.msg.group, .int .i64 x.now], 46), (w2.heap.size + 1 + 1, #[.pointer none, .pointer (some ⟨w2.heap.size + 1, 0, none⟩)], 32)] → S u by
                intro u v1 vx1 vz1 L1 M1 _ h
                rw [hSdef]
                exact ⟨(h.ob (wo.heap.size, #[.int .i64 x.kind, .string x.msg.topic, .string x.msg.payload, .int .i64 x.msg.qos, .bool x.msg.retain, .slice x.msg.pA x.msg.props.length x.msg.pc, .string x.msg.from_, .int .i64 x.msg.until_, .int .i64 x.msg.seq, .string x.msg.group, .int .i64 x.now], 46) (by simp)).1, (h.ob (w2.heap.size + 1 + 1, #[.pointer none, .pointer (some ⟨w2.heap.size + 1, 0, none⟩)], 32) (by simp)).1⟩)
              have HQ := Lib.hid (show ∀ n : Wd S, n.w.heap[wo.heap.size]? = some (.cells #[.int .i64 x.kind, .string x.msg.topic, .string x.msg.payload, .int .i64 x.msg.qos, .bool x.msg.retain, .slice x.msg.pA x.msg.props.length x.msg.pc, .string x.msg.from_, .int .i64 x.msg.until_, .int .i64 x.msg.seq, .string x.msg.group, .int .i64 x.now] 46 (0, 0)) ∧ n.w.heap[w2.heap.size + 1 + 1]? = some (.cells #[.pointer none, .pointer (some ⟨w2.heap.size + 1, 0, none⟩)] 32 (0, 0)) by
                intro n
                obtain ⟨u, hu⟩ := n
                rw [hSdef] at hu
                exact hu)
              have hNS : Nonempty (Wd S) := ⟨⟨_, HSP.out _ _ _ _ _ _ () HPN0.out⟩⟩
              clear hSdef
              go_upto_region 31 with (fail)
              go_cut [20] (fun y wx => y = .bool false ∧ ∃ vz2, Pl w wx w1.heap.size w2.heap.size (w2.heap.size + 1) most v' vx' vz2 L' M' [(wo.heap.size, #[.int .i64 x.kind, .string x.msg.topic, .string x.msg.payload, .int .i64 x.msg.qos, .bool x.msg.retain, .slice x.msg.pA x.msg.props.length x.msg.pc, .string x.msg.from_, .int .i64 x.msg.until_, .int .i64 x.msg.seq, .string x.msg.group, .int .i64 x.now], 46), (w2.heap.size + 1 + 1, #[.pointer none, .pointer (some ⟨w2.heap.size + 1, 0, none⟩)], 32)])
              case first =>
                have q0 := fun n : Wd S => cell_of (HQ.out n).1 (o := 0) (v := .int .i64 x.kind) rfl
                have q1 := fun n : Wd S => cell_of (HQ.out n).1 (o := 1) (v := .string x.msg.topic) rfl
                have q2 := fun n : Wd S => cell_of (HQ.out n).1 (o := 2) (v := .string x.msg.payload) rfl
                have q3 := fun n : Wd S => cell_of (HQ.out n).1 (o := 3) (v := .int .i64 x.msg.qos) rfl
                have q4 := fun n : Wd S => cell_of (HQ.out n).1 (o := 4) (v := .bool x.msg.retain) rfl
                have q5 := fun n : Wd S => cell_of (HQ.out n).1 (o := 5) (v := .slice x.msg.pA x.msg.props.length x.msg.pc) rfl
                have q6 := fun n : Wd S => cell_of (HQ.out n).1 (o := 6) (v := .string x.msg.from_) rfl
                have q7 := fun n : Wd S => cell_of (HQ.out n).1 (o := 7) (v := .int .i64 x.msg.until_) rfl
                have q8 := fun n : Wd S => cell_of (HQ.out n).1 (o := 8) (v := .int .i64 x.msg.seq) rfl
                have q9 := fun n : Wd S => cell_of (HQ.out n).1 (o := 9) (v := .string x.msg.group) rfl
                have q10 := fun n : Wd S => cell_of (HQ.out n).1 (o := 10) (v := .int .i64 x.now) rfl
                have qn := fun n : Wd S => cell_of (HQ.out n).2 (o := j) HNBC.out
                have HPN := HPN0
                have HPD := Lib.hid (HPN.out.below (below_drewN (Below.refl _ _) 1))
                have hS1 := HSP.out _ _ _ _ _ _ () HPD.out
                refine wp_region_G (n := 13) S rfl (by kernel_rfl) hS1 (fun hS => ?_)
                refine wpAnyG_seg (fuel := 7) [0, 1, 4, 2, 5, 3] rfl rfl (by kernel_rfl) (fun _ _ d _ _ h => by cases d <;> exact h) hS ?_
                repeat (go_big_quiet_step (fail))
                refine wpQuiet_nil ?_
                clear q0 q1 q2 q3 q4 q5 q6 q7 q8 q9 q10 qn hS1
                refine wpAnyG_two (fuel := 6) 6 10 (by kernel_rfl) rfl rfl (fun K hK => ?_) (fun K hK => ?_)
                case _ =>
                  go_simp
                  refine (nb_pop HPD.out HPJ.out x.now).mono ?_
                  rintro e w5 ⟨rfl, vz2, hnb⟩
                  rw [mg0_val]
                  have HP5 := Lib.hid hnb.pl
                  clear hnb
                  go_wp2_with fail
                  refine hK.out S _ _ (fun _ h => h) (HSP.out _ _ _ _ _ _ () HP5.out) (fun hS => ?_)
                  clear hK K
                  refine wpAnyG_seg (fuel := 3) [7, 8, 9] rfl rfl (by kernel_rfl) (fun _ _ d _ _ h => by cases d <;> exact h) hS ?_
                  repeat (go_big_quiet_step (fail))
                  refine wpQuiet_nil ?_
                  have hal := alloc_below w5 (.cells #[.string ⟨#[]⟩, .string ⟨#[]⟩, .int .i64 0, .bool false, .slice none 0 0, .string ⟨#[]⟩, .int .i64 0, .int .i64 0, .string ⟨#[]⟩] 24)
                  have hz6 := heap_alloc_new w5 (.cells #[.string ⟨#[]⟩, .string ⟨#[]⟩, .int .i64 0, .bool false, .slice none 0 0, .string ⟨#[]⟩, .int .i64 0, .int .i64 0, .string ⟨#[]⟩] 24)
                  have hp6 := HP5.out.below hal
                  have HP6 := Lib.hid hp6
                  have HPF := Lib.hid (hp6.scratch (put9_tch (w5.alloc (.cells #[.string ⟨#[]⟩, .string ⟨#[]⟩, .int .i64 0, .bool false, .slice none 0 0, .string ⟨#[]⟩, .int .i64 0, .int .i64 0, .string ⟨#[]⟩] 24)) w5.heap.size (.string ⟨#[]⟩) (.string ⟨#[]⟩) (.int .i64 0) (.bool false) (.slice none 0 0) (.string ⟨#[]⟩) (.int .i64 0) (.int .i64 0) (.string ⟨#[]⟩)) hz6 (by have := HP5.out.bw.size; omega) (by intro h; have := HP5.out.q.win.lt h; omega) (by intro h; have := HP5.out.r.win.lt h; omega) (by intro h; have := HP5.out.n.win.lt h; omega))
                  have y0 := cell_of hz6 (o := 0) (v := .string ⟨#[]⟩) rfl
                  have y1 := cell_of hz6 (o := 1) (v := .string ⟨#[]⟩) rfl
                  have y2 := cell_of hz6 (o := 2) (v := .int .i64 0) rfl
                  have y3 := cell_of hz6 (o := 3) (v := .bool false) rfl
                  have y4 := cell_of hz6 (o := 4) (v := .slice none 0 0) rfl
                  have y5 := cell_of hz6 (o := 5) (v := .string ⟨#[]⟩) rfl
                  have y6 := cell_of hz6 (o := 6) (v := .int .i64 0) rfl
                  have y7 := cell_of hz6 (o := 7) (v := .int .i64 0) rfl
                  have y8 := cell_of hz6 (o := 8) (v := .string ⟨#[]⟩) rfl
                  have f0 := free_of hz6 0
                  have f1 := free_of hz6 1
                  have f2 := free_of hz6 2
                  have f3 := free_of hz6 3
                  have f4 := free_of hz6 4
                  have f5 := free_of hz6 5
                  have f6 := free_of hz6 6
                  have f7 := free_of hz6 7
                  have f8 := free_of hz6 8
                  clear hal hz6 hp6
                  refine wpAnyG_alone (fuel := 2) 10 (by kernel_rfl) rfl hS (fun K hK => ?_)
                  go_simp
                  refine hK.out S _ _ (fun _ h => h) (HSP.out _ _ _ _ _ _ () HP6.out) (fun hS => ?_)
                  clear hK K
                  generalize w5.alloc (.cells #[.string ⟨#[]⟩, .string ⟨#[]⟩, .int .i64 0, .bool false, .slice none 0 0, .string ⟨#[]⟩, .int .i64 0, .int .i64 0, .string ⟨#[]⟩] 24) = w6 at *
                  generalize w5.heap.size = tb at *
                  
                  refine wpAnyG_alone (fuel := 1) 11 (by kernel_rfl) rfl hS (fun K hK => ?_)
                  go_simp
                  refine hK.out S _ _ (fun _ h => h) (HSP.out _ _ _ _ _ _ () HPF.out) (fun hS => ?_)
                  clear hK K y0 y1 y2 y3 y4 y5 y6 y7 y8 f0 f1 f2 f3 f4 f5 f6 f7 f8
                  refine wpAnyG_seg (fuel := 0) [12] rfl rfl (by kernel_rfl) (fun _ _ d _ _ h => by cases d <;> exact h) hS ?_
                  repeat (go_big_quiet_step (fail))
                  refine wpQuiet_nil ?_
                  refine wpAnyG_end (by kernel_rfl) ?_
                  clear hS
                  go_wp2_with fail
                  go_meet
                  exact ⟨rfl, _, HPF.out⟩
                case _ =>
                  go_simp
                  have hal := (alloc_below wi (.cells #[.string ⟨#[]⟩, .string ⟨#[]⟩, .int .i64 0, .bool false, .slice none 0 0, .string ⟨#[]⟩, .int .i64 0, .int .i64 0, .string ⟨#[]⟩] 24)).trans (below_drewN (Below.refl _ _) 1)
                  have hp6 := HPN.out.below hal
                  have HP6 := Lib.hid hp6
                  have hz6 : (wi.alloc (.cells #[.string ⟨#[]⟩, .string ⟨#[]⟩, .int .i64 0, .bool false, .slice none 0 0, .string ⟨#[]⟩, .int .i64 0, .int .i64 0, .string ⟨#[]⟩] 24)).drew.heap[wi.heap.size]? = some (.cells #[.string ⟨#[]⟩, .string ⟨#[]⟩, .int .i64 0, .bool false, .slice none 0 0, .string ⟨#[]⟩, .int .i64 0, .int .i64 0, .string ⟨#[]⟩] 24 (0, 0)) := heap_alloc_new wi (.cells #[.string ⟨#[]⟩, .string ⟨#[]⟩, .int .i64 0, .bool false, .slice none 0 0, .string ⟨#[]⟩, .int .i64 0, .int .i64 0, .string ⟨#[]⟩] 24)
                  have HZ6 := Lib.hid hz6
                  have hsz : (wi.alloc (.cells #[.string ⟨#[]⟩, .string ⟨#[]⟩, .int .i64 0, .bool false, .slice none 0 0, .string ⟨#[]⟩, .int .i64 0, .int .i64 0, .string ⟨#[]⟩] 24)).drew.heap.size = wi.heap.size + 1 := by
                    show (wi.alloc (.cells #[.string ⟨#[]⟩, .string ⟨#[]⟩, .int .i64 0, .bool false, .slice none 0 0, .string ⟨#[]⟩, .int .i64 0, .int .i64 0, .string ⟨#[]⟩] 24)).heap.size = _
                    simp
                  have HSZ := Lib.hid hsz
                  clear hal hp6 hz6 hsz
                  refine hK.out S _ _ (fun _ h => h) (HSP.out _ _ _ _ _ _ () HP6.out) (fun hS => ?_)
                  clear hK K
                  refine wpAnyG_alone (fuel := 5) 6 (by kernel_rfl) rfl hS (fun K hK => ?_)
                  go_simp
                  refine (nb_pop HP6.out HPJ.out x.now).mono ?_
                  rintro e w5 ⟨rfl, vz2, hnb⟩
                  rw [mg0_val]
                  have HP5 := Lib.hid hnb.pl
                  have hz5 := hnb.kept _ _ HZ6.out (by intro h; have := HPN.out.n.win.lt h; omega)
                  have HPF := Lib.hid (hnb.pl.scratch (put9_tch w5 wi.heap.size (.string ⟨#[]⟩) (.string ⟨#[]⟩) (.int .i64 0) (.bool false) (.slice none 0 0) (.string ⟨#[]⟩) (.int .i64 0) (.int .i64 0) (.string ⟨#[]⟩)) hz5 (by have := HPN.out.bw.size; omega) (by intro h; have := HPN.out.q.win.lt h; omega) (by intro h; have := HPN.out.r.win.lt h; omega) (by
                    intro h
                    rcases hnb.loc _ h with h1 | h1
                    · have := HPN.out.n.win.lt h1; omega
                    · have h3 : (wi.alloc (.cells #[.string ⟨#[]⟩, .string ⟨#[]⟩, .int .i64 0, .bool false, .slice none 0 0, .string ⟨#[]⟩, .int .i64 0, .int .i64 0, .string ⟨#[]⟩] 24)).drew.heap.size ≤ wi.heap.size := h1
                      rw [HSZ.out] at h3; omega))
                  have y0 := cell_of hz5 (o := 0) (v := .string ⟨#[]⟩) rfl
                  have y1 := cell_of hz5 (o := 1) (v := .string ⟨#[]⟩) rfl
                  have y2 := cell_of hz5 (o := 2) (v := .int .i64 0) rfl
                  have y3 := cell_of hz5 (o := 3) (v := .bool false) rfl
                  have y4 := cell_of hz5 (o := 4) (v := .slice none 0 0) rfl
                  have y5 := cell_of hz5 (o := 5) (v := .string ⟨#[]⟩) rfl
                  have y6 := cell_of hz5 (o := 6) (v := .int .i64 0) rfl
                  have y7 := cell_of hz5 (o := 7) (v := .int .i64 0) rfl
                  have y8 := cell_of hz5 (o := 8) (v := .string ⟨#[]⟩) rfl
                  have f0 := free_of hz5 0
                  have f1 := free_of hz5 1
                  have f2 := free_of hz5 2
                  have f3 := free_of hz5 3
                  have f4 := free_of hz5 4
                  have f5 := free_of hz5 5
                  have f6 := free_of hz5 6
                  have f7 := free_of hz5 7
                  have f8 := free_of hz5 8
                  clear hnb hz5
                  go_wp2_with fail
                  refine hK.out S _ _ (fun _ h => h) (HSP.out _ _ _ _ _ _ () HP5.out) (fun hS => ?_)
                  clear hK K
                  refine wpAnyG_seg (fuel := 2) [7, 8, 9] rfl rfl (by kernel_rfl) (fun _ _ d _ _ h => by cases d <;> exact h) hS ?_
                  repeat (go_big_quiet_step (fail))
                  refine wpQuiet_nil ?_
                  
                  refine wpAnyG_alone (fuel := 1) 11 (by kernel_rfl) rfl hS (fun K hK => ?_)
                  go_simp
                  refine hK.out S _ _ (fun _ h => h) (HSP.out _ _ _ _ _ _ () HPF.out) (fun hS => ?_)
                  clear hK K y0 y1 y2 y3 y4 y5 y6 y7 y8 f0 f1 f2 f3 f4 f5 f6 f7 f8
                  refine wpAnyG_seg (fuel := 0) [12] rfl rfl (by kernel_rfl) (fun _ _ d _ _ h => by cases d <;> exact h) hS ?_
                  repeat (go_big_quiet_step (fail))
                  refine wpQuiet_nil ?_
                  refine wpAnyG_end (by kernel_rfl) ?_
                  clear hS
                  go_wp2_with fail
                  go_meet
                  exact ⟨rfl, _, HPF.out⟩
              case rest =>
                obtain ⟨rfl, vz2, hp2⟩ := hcut
                obtain ⟨wy2, hwy⟩ : ∃ wy2 : World, wy2 = wc := ⟨_, rfl⟩
                subst hwy
                have HPN1 := Lib.hid hp2
                clear hp2
                go_upto_region 32 with (fail)
                go_cut [22] (fun y wx => y = .bool false ∧ ∃ vz2, Pl w wx w1.heap.size w2.heap.size (w2.heap.size + 1) most v' vx' vz2 L' M' [(wo.heap.size, #[.int .i64 x.kind, .string x.msg.topic, .string x.msg.payload, .int .i64 x.msg.qos, .bool x.msg.retain, .slice x.msg.pA x.msg.props.length x.msg.pc, .string x.msg.from_, .int .i64 x.msg.until_, .int .i64 x.msg.seq, .string x.msg.group, .int .i64 x.now], 46), (w2.heap.size + 1 + 1, #[.pointer none, .pointer (some ⟨w2.heap.size + 1, 0, none⟩)], 32)])
                case first =>
                  have q0 := fun n : Wd S => cell_of (HQ.out n).1 (o := 0) (v := .int .i64 x.kind) rfl
                  have q1 := fun n : Wd S => cell_of (HQ.out n).1 (o := 1) (v := .string x.msg.topic) rfl
                  have q2 := fun n : Wd S => cell_of (HQ.out n).1 (o := 2) (v := .string x.msg.payload) rfl
                  have q3 := fun n : Wd S => cell_of (HQ.out n).1 (o := 3) (v := .int .i64 x.msg.qos) rfl
                  have q4 := fun n : Wd S => cell_of (HQ.out n).1 (o := 4) (v := .bool x.msg.retain) rfl
                  have q5 := fun n : Wd S => cell_of (HQ.out n).1 (o := 5) (v := .slice x.msg.pA x.msg.props.length x.msg.pc) rfl
                  have q6 := fun n : Wd S => cell_of (HQ.out n).1 (o := 6) (v := .string x.msg.from_) rfl
                  have q7 := fun n : Wd S => cell_of (HQ.out n).1 (o := 7) (v := .int .i64 x.msg.until_) rfl
                  have q8 := fun n : Wd S => cell_of (HQ.out n).1 (o := 8) (v := .int .i64 x.msg.seq) rfl
                  have q9 := fun n : Wd S => cell_of (HQ.out n).1 (o := 9) (v := .string x.msg.group) rfl
                  have q10 := fun n : Wd S => cell_of (HQ.out n).1 (o := 10) (v := .int .i64 x.now) rfl
                  have qn := fun n : Wd S => cell_of (HQ.out n).2 (o := j) HNBC.out
                  have HPN := HPN1
                  have HPD := Lib.hid (HPN.out.below (below_drewN (Below.refl _ _) 1))
                  have hS1 := HSP.out _ _ _ _ _ _ () HPD.out
                  refine wp_region_G (n := 13) S rfl (by kernel_rfl) hS1 (fun hS => ?_)
                  refine wpAnyG_seg (fuel := 7) [0, 1, 4, 2, 5, 3] rfl rfl (by kernel_rfl) (fun _ _ d _ _ h => by cases d <;> exact h) hS ?_
                  repeat (go_big_quiet_step (fail))
                  refine wpQuiet_nil ?_
                  clear q0 q1 q2 q3 q4 q5 q6 q7 q8 q9 q10 qn hS1
                  refine wpAnyG_two (fuel := 6) 6 10 (by kernel_rfl) rfl rfl (fun K hK => ?_) (fun K hK => ?_)
                  case _ =>
                    go_simp
                    refine (nb_first HPD.out HPJ.out x.now).mono ?_
                    rintro e w5 ⟨rfl, vz2, hnb⟩
                    rw [mg0_val]
                    have HP5 := Lib.hid hnb.pl
                    clear hnb
                    go_wp2_with fail
                    refine hK.out S _ _ (fun _ h => h) (HSP.out _ _ _ _ _ _ () HP5.out) (fun hS => ?_)
                    clear hK K
                    refine wpAnyG_seg (fuel := 3) [7, 8, 9] rfl rfl (by kernel_rfl) (fun _ _ d _ _ h => by cases d <;> exact h) hS ?_
                    repeat (go_big_quiet_step (fail))
                    refine wpQuiet_nil ?_
                    have hal := alloc_below w5 (.cells #[.string ⟨#[]⟩, .string ⟨#[]⟩, .int .i64 0, .bool false, .slice none 0 0, .string ⟨#[]⟩, .int .i64 0, .int .i64 0, .string ⟨#[]⟩] 24)
                    have hz6 := heap_alloc_new w5 (.cells #[.string ⟨#[]⟩, .string ⟨#[]⟩, .int .i64 0, .bool false, .slice none 0 0, .string ⟨#[]⟩, .int .i64 0, .int .i64 0, .string ⟨#[]⟩] 24)
                    have hp6 := HP5.out.below hal
                    have HP6 := Lib.hid hp6
                    have HPF := Lib.hid (hp6.scratch (put9_tch (w5.alloc (.cells #[.string ⟨#[]⟩, .string ⟨#[]⟩, .int .i64 0, .bool false, .slice none 0 0, .string ⟨#[]⟩, .int .i64 0, .int .i64 0, .string ⟨#[]⟩] 24)) w5.heap.size (.string ⟨#[]⟩) (.string ⟨#[]⟩) (.int .i64 0) (.bool false) (.slice none 0 0) (.string ⟨#[]⟩) (.int .i64 0) (.int .i64 0) (.string ⟨#[]⟩)) hz6 (by have := HP5.out.bw.size; omega) (by intro h; have := HP5.out.q.win.lt h; omega) (by intro h; have := HP5.out.r.win.lt h; omega) (by intro h; have := HP5.out.n.win.lt h; omega))
                    have y0 := cell_of hz6 (o := 0) (v := .string ⟨#[]⟩) rfl
                    have y1 := cell_of hz6 (o := 1) (v := .string ⟨#[]⟩) rfl
                    have y2 := cell_of hz6 (o := 2) (v := .int .i64 0) rfl
                    have y3 := cell_of hz6 (o := 3) (v := .bool false) rfl
                    have y4 := cell_of hz6 (o := 4) (v := .slice none 0 0) rfl
                    have y5 := cell_of hz6 (o := 5) (v := .string ⟨#[]⟩) rfl
                    have y6 := cell_of hz6 (o := 6) (v := .int .i64 0) rfl
                    have y7 := cell_of hz6 (o := 7) (v := .int .i64 0) rfl
                    have y8 := cell_of hz6 (o := 8) (v := .string ⟨#[]⟩) rfl
                    have f0 := free_of hz6 0
                    have f1 := free_of hz6 1
                    have f2 := free_of hz6 2
                    have f3 := free_of hz6 3
                    have f4 := free_of hz6 4
                    have f5 := free_of hz6 5
                    have f6 := free_of hz6 6
                    have f7 := free_of hz6 7
                    have f8 := free_of hz6 8
                    clear hal hz6 hp6
                    refine wpAnyG_alone (fuel := 2) 10 (by kernel_rfl) rfl hS (fun K hK => ?_)
                    go_simp
                    refine hK.out S _ _ (fun _ h => h) (HSP.out _ _ _ _ _ _ () HP6.out) (fun hS => ?_)
                    clear hK K
                    generalize w5.alloc (.cells #[.string ⟨#[]⟩, .string ⟨#[]⟩, .int .i64 0, .bool false, .slice none 0 0, .string ⟨#[]⟩, .int .i64 0, .int .i64 0, .string ⟨#[]⟩] 24) = w6 at *
                    generalize w5.heap.size = tb at *
                    
                    refine wpAnyG_alone (fuel := 1) 11 (by kernel_rfl) rfl hS (fun K hK => ?_)
                    go_simp
                    refine hK.out S _ _ (fun _ h => h) (HSP.out _ _ _ _ _ _ () HPF.out) (fun hS => ?_)
                    clear hK K y0 y1 y2 y3 y4 y5 y6 y7 y8 f0 f1 f2 f3 f4 f5 f6 f7 f8
                    refine wpAnyG_seg (fuel := 0) [12] rfl rfl (by kernel_rfl) (fun _ _ d _ _ h => by cases d <;> exact h) hS ?_
                    repeat (go_big_quiet_step (fail))
                    refine wpQuiet_nil ?_
                    refine wpAnyG_end (by kernel_rfl) ?_
                    clear hS
                    go_wp2_with fail
                    go_meet
                    exact ⟨rfl, _, HPF.out⟩
                  case _ =>
                    go_simp
                    have hal := (alloc_below wy2 (.cells #[.string ⟨#[]⟩, .string ⟨#[]⟩, .int .i64 0, .bool false, .slice none 0 0, .string ⟨#[]⟩, .int .i64 0, .int .i64 0, .string ⟨#[]⟩] 24)).trans (below_drewN (Below.refl _ _) 1)
                    have hp6 := HPN.out.below hal
                    have HP6 := Lib.hid hp6
                    have hz6 : (wy2.alloc (.cells #[.string ⟨#[]⟩, .string ⟨#[]⟩, .int .i64 0, .bool false, .slice none 0 0, .string ⟨#[]⟩, .int .i64 0, .int .i64 0, .string ⟨#[]⟩] 24)).drew.heap[wy2.heap.size]? = some (.cells #[.string ⟨#[]⟩, .string ⟨#[]⟩, .int .i64 0, .bool false, .slice none 0 0, .string ⟨#[]⟩, .int .i64 0, .int .i64 0, .string ⟨#[]⟩] 24 (0, 0)) := heap_alloc_new wy2 (.cells #[.string ⟨#[]⟩, .string ⟨#[]⟩, .int .i64 0, .bool false, .slice none 0 0, .string ⟨#[]⟩, .int .i64 0, .int .i64 0, .string ⟨#[]⟩] 24)
                    have HZ6 := Lib.hid hz6
                    have hsz : (wy2.alloc (.cells #[.string ⟨#[]⟩, .string ⟨#[]⟩, .int .i64 0, .bool false, .slice none 0 0, .string ⟨#[]⟩, .int .i64 0, .int .i64 0, .string ⟨#[]⟩] 24)).drew.heap.size = wy2.heap.size + 1 := by
                      show (wy2.alloc (.cells #[.string ⟨#[]⟩, .string ⟨#[]⟩, .int .i64 0, .bool false, .slice none 0 0, .string ⟨#[]⟩, .int .i64 0, .int .i64 0, .string ⟨#[]⟩] 24)).heap.size = _
                      simp
                    have HSZ := Lib.hid hsz
                    clear hal hp6 hz6 hsz
                    refine hK.out S _ _ (fun _ h => h) (HSP.out _ _ _ _ _ _ () HP6.out) (fun hS => ?_)
                    clear hK K
                    refine wpAnyG_alone (fuel := 5) 6 (by kernel_rfl) rfl hS (fun K hK => ?_)
                    go_simp
                    refine (nb_first HP6.out HPJ.out x.now).mono ?_
                    rintro e w5 ⟨rfl, vz2, hnb⟩
                    rw [mg0_val]
                    have HP5 := Lib.hid hnb.pl
                    have hz5 := hnb.kept _ _ HZ6.out (by intro h; have := HPN.out.n.win.lt h; omega)
                    have HPF := Lib.hid (hnb.pl.scratch (put9_tch w5 wy2.heap.size (.string ⟨#[]⟩) (.string ⟨#[]⟩) (.int .i64 0) (.bool false) (.slice none 0 0) (.string ⟨#[]⟩) (.int .i64 0) (.int .i64 0) (.string ⟨#[]⟩)) hz5 (by have := HPN.out.bw.size; omega) (by intro h; have := HPN.out.q.win.lt h; omega) (by intro h; have := HPN.out.r.win.lt h; omega) (by
                      intro h
                      rcases hnb.loc _ h with h1 | h1
                      · have := HPN.out.n.win.lt h1; omega
                      · have h3 : (wy2.alloc (.cells #[.string ⟨#[]⟩, .string ⟨#[]⟩, .int .i64 0, .bool false, .slice none 0 0, .string ⟨#[]⟩, .int .i64 0, .int .i64 0, .string ⟨#[]⟩] 24)).drew.heap.size ≤ wy2.heap.size := h1
                        rw [HSZ.out] at h3; omega))
                    have y0 := cell_of hz5 (o := 0) (v := .string ⟨#[]⟩) rfl
                    have y1 := cell_of hz5 (o := 1) (v := .string ⟨#[]⟩) rfl
                    have y2 := cell_of hz5 (o := 2) (v := .int .i64 0) rfl
                    have y3 := cell_of hz5 (o := 3) (v := .bool false) rfl
                    have y4 := cell_of hz5 (o := 4) (v := .slice none 0 0) rfl
                    have y5 := cell_of hz5 (o := 5) (v := .string ⟨#[]⟩) rfl
                    have y6 := cell_of hz5 (o := 6) (v := .int .i64 0) rfl
                    have y7 := cell_of hz5 (o := 7) (v := .int .i64 0) rfl
                    have y8 := cell_of hz5 (o := 8) (v := .string ⟨#[]⟩) rfl
                    have f0 := free_of hz5 0
                    have f1 := free_of hz5 1
                    have f2 := free_of hz5 2
                    have f3 := free_of hz5 3
                    have f4 := free_of hz5 4
                    have f5 := free_of hz5 5
                    have f6 := free_of hz5 6
                    have f7 := free_of hz5 7
                    have f8 := free_of hz5 8
                    clear hnb hz5
                    go_wp2_with fail
                    refine hK.out S _ _ (fun _ h => h) (HSP.out _ _ _ _ _ _ () HP5.out) (fun hS => ?_)
                    clear hK K
                    refine wpAnyG_seg (fuel := 2) [7, 8, 9] rfl rfl (by kernel_rfl) (fun _ _ d _ _ h => by cases d <;> exact h) hS ?_
                    repeat (go_big_quiet_step (fail))
                    refine wpQuiet_nil ?_
                    
                    refine wpAnyG_alone (fuel := 1) 11 (by kernel_rfl) rfl hS (fun K hK => ?_)
                    go_simp
                    refine hK.out S _ _ (fun _ h => h) (HSP.out _ _ _ _ _ _ () HPF.out) (fun hS => ?_)
                    clear hK K y0 y1 y2 y3 y4 y5 y6 y7 y8 f0 f1 f2 f3 f4 f5 f6 f7 f8
                    refine wpAnyG_seg (fuel := 0) [12] rfl rfl (by kernel_rfl) (fun _ _ d _ _ h => by cases d <;> exact h) hS ?_
                    repeat (go_big_quiet_step (fail))
                    refine wpQuiet_nil ?_
                    refine wpAnyG_end (by kernel_rfl) ?_
                    clear hS
                    go_wp2_with fail
                    go_meet
                    exact ⟨rfl, _, HPF.out⟩
                case rest =>
                  obtain ⟨rfl, vz3, hp3⟩ := hcut
                  obtain ⟨wy3, hwy⟩ : ∃ wy3 : World, wy3 = wc := ⟨_, rfl⟩
                  subst hwy
                  have HPN2 := Lib.hid hp3
                  clear hp3
                  have q0 := fun n : Wd S => cell_of (HQ.out n).1 (o := 0) (v := .int .i64 x.kind) rfl
                  have q1 := fun n : Wd S => cell_of (HQ.out n).1 (o := 1) (v := .string x.msg.topic) rfl
                  have q2 := fun n : Wd S => cell_of (HQ.out n).1 (o := 2) (v := .string x.msg.payload) rfl
                  have q3 := fun n : Wd S => cell_of (HQ.out n).1 (o := 3) (v := .int .i64 x.msg.qos) rfl
                  have q4 := fun n : Wd S => cell_of (HQ.out n).1 (o := 4) (v := .bool x.msg.retain) rfl
                  have q5 := fun n : Wd S => cell_of (HQ.out n).1 (o := 5) (v := .slice x.msg.pA x.msg.props.length x.msg.pc) rfl
                  have q6 := fun n : Wd S => cell_of (HQ.out n).1 (o := 6) (v := .string x.msg.from_) rfl
                  have q7 := fun n : Wd S => cell_of (HQ.out n).1 (o := 7) (v := .int .i64 x.msg.until_) rfl
                  have q8 := fun n : Wd S => cell_of (HQ.out n).1 (o := 8) (v := .int .i64 x.msg.seq) rfl
                  have q9 := fun n : Wd S => cell_of (HQ.out n).1 (o := 9) (v := .string x.msg.group) rfl
                  have q10 := fun n : Wd S => cell_of (HQ.out n).1 (o := 10) (v := .int .i64 x.now) rfl
                  have qn := fun n : Wd S => cell_of (HQ.out n).2 (o := j) HNBC.out
                  have HPD := Lib.hid (HPN2.out.below (below_drewN (Below.refl _ _) 1))
                  have hS1 := HSP.out _ _ _ _ _ _ () HPD.out
                  go_upto_region 33 with (fail)
                  refine wp_region_G (n := 40) S rfl (by kernel_rfl) hS1 (fun hS => ?_)
                  refine wpAnyG_seg (fuel := 34) [0, 1, 4, 2, 5, 3] rfl rfl (by kernel_rfl) (fun _ _ d _ _ h => by cases d <;> exact h) hS ?_
                  repeat (go_big_quiet_step (fail))
                  refine wpQuiet_nil ?_
                  refine wpAnyG_alone (fuel := 33) 6 (by kernel_rfl) rfl hS (fun K hK => ?_)
                  go_simp
                  refine (nb_push HPD.out HPJ.out x.msg (HOK.out _ HPD.out.stp)).mono ?_
                  rintro e u1 ⟨rfl, vz4, hnb⟩
                  have HR1 := Lib.hid hnb.pl
                  clear hnb
                  go_wp2_with fail
                  refine hK.out S _ _ (fun _ h => h) (HSP.out _ _ _ _ _ _ () HR1.out) (fun hS => ?_)
                  clear hK K
                  refine wpAnyG_seg (fuel := 20) [7, 8, 9, 10, 11, 12, 13, 14, 15, 18, 16, 19, 17] rfl rfl (by kernel_rfl) (fun _ _ d _ _ h => by cases d <;> exact h) hS ?_
                  repeat (go_big_quiet_step (fail))
                  refine wpQuiet_nil ?_
                  refine wpAnyG_alone (fuel := 19) 20 (by kernel_rfl) rfl hS (fun K hK => ?_)
                  go_simp
                  refine (nb_expire HR1.out HPJ.out x.now).mono ?_
                  rintro e u2 ⟨rfl, vz5, hnb⟩
                  have HR2 := Lib.hid hnb.pl
                  clear hnb
                  go_wp2_with fail
                  refine hK.out S _ _ (fun _ h => h) (HSP.out _ _ _ _ _ _ () HR2.out) (fun hS => ?_)
                  clear hK K
                  refine wpAnyG_seg (fuel := 12) [21, 22, 23, 24, 25, 26, 27] rfl rfl (by kernel_rfl) (fun _ _ d _ _ h => by cases d <;> exact h) hS ?_
                  repeat (go_big_quiet_step (fail))
                  refine wpQuiet_nil ?_
                  refine wpAnyG_alone (fuel := 11) 28 (by kernel_rfl) rfl hS (fun K hK => ?_)
                  go_simp
                  refine (nb_len HR2.out HPJ.out).mono ?_
                  rintro e u3 ⟨rfl, rfl⟩
                  go_wp2_with fail
                  refine hK.out S _ _ (fun _ h => h) (HSP.out _ _ _ _ _ _ () HR2.out) (fun hS => ?_)
                  clear hK K
                  refine wpAnyG_seg (fuel := 4) [29, 30, 31, 32, 33, 34, 35] rfl rfl (by kernel_rfl) (fun _ _ d _ _ h => by cases d <;> exact h) hS ?_
                  repeat (go_big_quiet_step (fail))
                  refine wpQuiet_nil ?_
                  refine wpAnyG_alone (fuel := 3) 36 (by kernel_rfl) rfl hS (fun K hK => ?_)
                  go_simp
                  refine (nb_all HR2.out HPJ.out).mono ?_
                  rintro e u4 ⟨⟨A4, c4, rfl⟩, hb⟩
                  have HR4 := Lib.hid (HR2.out.below hb)
                  clear hb
                  go_wp2_with fail
                  refine hK.out S _ _ (fun _ h => h) (HSP.out _ _ _ _ _ _ () HR4.out) (fun hS => ?_)
                  clear hK K
                  refine wpAnyG_seg (fuel := 0) [37, 38, 39] rfl rfl (by kernel_rfl) (fun _ _ d _ _ h => by cases d <;> exact h) hS ?_
                  repeat (go_big_quiet_step (fail))
                  refine wpQuiet_nil ?_
                  refine wpAnyG_end (by kernel_rfl) ?_
                  clear hS hS1 hNS q0 q1 q2 q3 q4 q5 q6 q7 q8 q9 q10 qn
                  go_wp2_with fail
                  go_roundw
                  case rel => exact ⟨j + 1, _, by omega, by go_num, HR4.out⟩
                  case measure => simp [intOf]; omega
            · obtain rfl : j = 2 := by omega
              clear hpn
              go_wp2_with fail
              go_roundw
              case rel => exact ⟨k + 1, v', vx', vz', L', M', by omega, by go_num, HPN0.out.less, HLM2.out, by omega⟩
              case measure => simp [intOf]; omega
      · obtain rfl : k = l.length := by omega
        have HBW := Lib.hid hpl.bw
        clear hpl
        go_wp2_with fail
        refine (awake_any _).mono ?_
        rintro e wz ⟨rfl, hb⟩
        have HBZ := Lib.hid (HBW.out.trans (hb.mono HBW.out.size))
        clear hb
        go_wp2_with fail
        go_ret
        exact ⟨rfl, HBZ.out⟩
end Go.Proofs.Ytjcdkgdeoeboaaa.QuW
