/- Queues: acts; all queues side by side; queues that nobody made. -/
import Derived.Test.YtjcdkgdeoeboaaaQuO
set_option linter.unusedVariables false
set_option linter.unusedSimpArgs false
namespace Go.Proofs.Ytjcdkgdeoeboaaa.QuW
open Go.RowKit Go.Proofs.Ytjcdkgdeoeboaaa.Tc

structure Act_ where
  kind : Int
  msg : Mg
  now : Int
def avals (a : Act_) : List Value := .int .i64 a.kind :: (a.msg.vals ++ [.int .i64 a.now])
theorem avals_len (a : Act_) : (avals a).length = 11 := rfl
set_option maxRecDepth 100000 in
noncomputable def kAct0 : Kd Try.prog 46 (Int × Mg × Int) := kStruct Try.underlying46 rfl (fCons rfl aI (fCons rfl kMsg (fOne rfl aI))) (by kernel_rfl)
noncomputable def kAct : Kd Try.prog 46 Act_ := kMap kAct0 (fun x => ⟨x.1, x.2.1, x.2.2⟩) (fun a => (a.kind, a.msg, a.now)) (fun _ => rfl)
theorem kAct_rel (w : World) (a : Act_) (cs : List Value) : kAct.rel w a cs → cs = avals a ∧ (Lit.int .i64 a.now).wf = true ∧ a.msg.wf ∧ SliceIs kProp w a.msg.pA a.msg.props := by
  rintro ⟨c0, cr, rfl, ⟨rfl, h0⟩, ⟨c1, cr, rfl, h1, ⟨rfl, h2⟩⟩⟩
  obtain ⟨rfl, h3, h4⟩ := (kMsg_rel _ _ _).1 h1
  exact ⟨rfl, h2, h3, h4⟩
theorem cellsAct : Try.prog.cellsOf 46 = 11 := by kernel_rfl
theorem acts_open {H : Type} {enc : TypeId × Value → H} {w : World} {base : Nat} {sp : Nat → Bool} {held : Bool} {A : Option Addr} {len cap : Nat} {d : DataW H} {ps : List MemPlace}
    (h : DataW.Trod enc Try.prog w base sp held 37 (.slice A len cap) d ps) : ∃ xs : List Act_, xs.length = len ∧ SliceIs kAct w A xs := by
  obtain ⟨fuel, hf⟩ := h
  obtain ⟨A', c', xs, hcs, hx⟩ := slice_opens Try.underlying37 (by rw [cellsAct]; decide) kAct hf
  simp [Value.cells] at hcs
  obtain ⟨rfl, rfl, rfl⟩ := hcs
  exact ⟨xs, rfl, hx⟩
theorem rd_acts {w : World} {A : Option Addr} {l : List Act_} (h : SliceIs kAct w A l) : Rd w A (l.flatMap avals) := by
  intro h0
  rw [fl_len avals_len] at h0
  obtain ⟨b, off, hA, -, hc⟩ := h.at_ (by omega)
  refine ⟨b, off, hA, fun j u hu => ?_⟩
  have e1 : j = j / 11 * 11 + j % 11 := by omega
  rw [e1, fl_get avals_len l _ _ (by omega)] at hu
  cases hx : l[j / 11]? with
  | none => rw [hx] at hu; cases hu
  | some x =>
    rw [hx] at hu
    obtain ⟨cs, hr, hcell⟩ := hc _ x hx
    obtain ⟨rfl, _⟩ := kAct_rel _ _ _ hr
    have := hcell _ u hu
    rw [cellsAct] at this
    rw [show off + j = off + j / 11 * 11 + j % 11 by omega]
    exact this
theorem acts_ok {w : World} {A : Option Addr} {l : List Act_} (h : SliceIs kAct w A l) {k : Nat} {a : Act_} (hm : l[k]? = some a) : (Lit.int .i64 a.now).wf = true ∧ a.msg.wf ∧ SliceIs kProp w a.msg.pA a.msg.props := by
  have hlt := (List.getElem?_eq_some_iff.1 hm).1
  obtain ⟨b, off, hA, -, hc⟩ := h.at_ (by omega)
  obtain ⟨cs, hr, hcell⟩ := hc k a hm
  exact (kAct_rel _ _ _ hr).2
theorem rd_act {w : World} {A : Option Addr} {l : List Act_} (h : Rd w A (l.flatMap avals)) {k : Nat} {x : Act_} (hk : l[k]? = some x) :
    ∃ b off, A = some ⟨b, off, none⟩ ∧ w.cell? ⟨b, off + k * 11, none⟩ = some (.int .i64 x.kind) ∧ w.cell? ⟨b, off + k * 11 + 1, none⟩ = some (.string x.msg.topic) ∧ w.cell? ⟨b, off + k * 11 + 2, none⟩ = some (.string x.msg.payload) ∧ w.cell? ⟨b, off + k * 11 + 3, none⟩ = some (.int .i64 x.msg.qos) ∧ w.cell? ⟨b, off + k * 11 + 4, none⟩ = some (.bool x.msg.retain) ∧ w.cell? ⟨b, off + k * 11 + 5, none⟩ = some (.slice x.msg.pA x.msg.props.length x.msg.pc) ∧ w.cell? ⟨b, off + k * 11 + 6, none⟩ = some (.string x.msg.from_) ∧ w.cell? ⟨b, off + k * 11 + 7, none⟩ = some (.int .i64 x.msg.until_) ∧ w.cell? ⟨b, off + k * 11 + 8, none⟩ = some (.int .i64 x.msg.seq) ∧ w.cell? ⟨b, off + k * 11 + 9, none⟩ = some (.string x.msg.group) ∧ w.cell? ⟨b, off + k * 11 + 10, none⟩ = some (.int .i64 x.now) := by
  obtain ⟨b, off, hA, hc⟩ := rd_at avals_len (by decide) h hk
  exact ⟨b, off, hA, hc 0 _ rfl, hc 1 _ rfl, hc 2 _ rfl, hc 3 _ rfl, hc 4 _ rfl, hc 5 _ rfl, hc 6 _ rfl, hc 7 _ rfl, hc 8 _ rfl, hc 9 _ rfl, hc 10 _ rfl⟩
def FewQ (l : List Act_) : Prop := l.length ≤ 40 ∧ ∀ (k : Nat) (a : Act_), l[k]? = some a → a.msg.props.length ≤ 70
set_option maxRecDepth 100000 in
set_option maxHeartbeats 2000000 in
theorem few_any (w : World) (A : Option Addr) (cap : Nat) (l : List Act_) (hS : SliceIs kAct w A l) :
    Calls Try.prog 16 #[.slice A l.length cap] w fun e w' => BPost (FewQ l) e ∧ Below w.heap.size w w' := by
  have hlen := hS.len
  unfold maxLen at hlen
  have HR := Lib.hid (rd_acts hS)
  have HO := Lib.hid (fun k m (hm : l[k]? = some m) => acts_ok hS hm)
  clear hS
  go_enter Try.func16, Try.ntmps16
  go_wp2
  go_loopw [3] (fun x wr => ∃ k : Nat, k ≤ l.length ∧ k ≤ 40 ∧ (∀ (j : Nat) (a : Act_), j < k → l[j]? = some a → a.msg.props.length ≤ 70) ∧ x = .int .i64 k ∧ Below w.heap.size w wr) (fun x _ => l.length - (intOf x).toNat)
  case atStart => exact ⟨0, by omega, by omega, by intro j _ h; omega, rfl, Below.refl _ _⟩
  case round =>
    obtain ⟨k, hk, hk40, hn, rfl, hbr⟩ := hrel
    have HN := Lib.hid hn
    have HB := Lib.hid hbr
    clear hn
    by_cases hlt : k < l.length
    · by_cases h40 : k < 40
      · obtain ⟨x, hx⟩ : ∃ x, l[k]? = some x := ⟨_, List.getElem?_eq_getElem hlt⟩
        obtain ⟨b, off, rfl, c0, c1, c2, c3, c4, c5, c6, c7, c8, c9, c10⟩ := rd_act (HR.out.below hbr) hx
        have hxo := HO.out k x hx
        have hxl := hxo.2.2.len
        unfold maxLen at hxl
        have HSM := Lib.hid (small_any x.msg wr ((rd_slice hxo.2.2).below hbr) (by omega))
        have HX := Lib.hid hx
        unfold Mg.val at HSM
        clear hx hxo hxl hbr
        go_wp2_with fail
        refine HSM.out.mono ?_
        rintro e w2 ⟨⟨bb, rfl, hbb⟩, hb⟩
        have HB2 := Lib.hid (HB.out.trans (hb.mono HB.out.size))
        have HBB := Lib.hid hbb
        clear hb hbb c0 c1 c2 c3 c4 c5 c6 c7 c8 c9 c10
        cases bb with
        | false =>
          go_wp2_with fail
          go_ret
          exact ⟨BPost.no, HB2.out⟩
        | true =>
          have HN1 := Lib.hid (show ∀ (j : Nat) (a : Act_), j < k + 1 → l[j]? = some a → a.msg.props.length ≤ 70 by
            intro j a hj ha
            by_cases e2 : j = k
            · subst e2; have := HX.out; rw [ha] at this; injection this with this; rw [this]; exact HBB.out rfl
            · exact HN.out j a (by omega) ha)
          go_wp2_with fail
          go_roundw
          case rel => exact ⟨k + 1, by omega, by omega, HN1.out, by go_num, HB2.out⟩
          case measure => simp [intOf]; omega
      · have h41 : ¬ l.length ≤ 40 := by omega
        clear hbr
        go_wp2
        go_ret
        exact ⟨BPost.of (b := decide ((l.length : Int) ≤ 40)) (fun h => absurd (of_decide_eq_true h) (by omega)), HB.out⟩
    · obtain rfl : k = l.length := by omega
      clear hbr
      go_wp2
      go_ret
      exact ⟨BPost.of (b := decide ((l.length : Int) ≤ 40)) (fun _ => ⟨hk40, fun j a hj => HN.out j a (List.getElem?_eq_some_iff.1 hj).1 hj⟩), HB.out⟩
/-- What a queue answers. -/
def ans (L : List Mg) (now : Int) : Mg × Bool := match L.dropWhile fun m => come m now with
  | [] => (mg0, false)
  | m :: _ => (bare m, true)
theorem ans_bare {L M : List Mg} (h : L.map bare = M.map bare) (now : Int) : ans L now = ans M now := by
  have h1 : ((L.dropWhile fun m => come m now)).map bare = ((M.dropWhile fun m => come m now)).map bare := by rw [drop_map, drop_map, h]
  unfold ans
  cases hL : L.dropWhile fun m => come m now with
  | nil =>
    cases hM : M.dropWhile fun m => come m now with
    | nil => rfl
    | cons y M' => rw [hL, hM] at h1; cases h1
  | cons x L' =>
    cases hM : M.dropWhile fun m => come m now with
    | nil => rw [hL, hM] at h1; cases h1
    | cons y M' =>
      rw [hL, hM] at h1
      simp only [List.map_cons, List.cons.injEq] at h1
      simp only [h1.1]
theorem first_form {T B : Nat} {w : World} {s : Nat} {most : Int} {v : Value} {L : List Mg} {now : Int} {pop : Bool} {e : Ending} {w' : World} (h : FirstPost T B w s most v L now pop e w') :
    ∃ a ok, e = .returned (.tuple #[Mg.val a, .bool ok]) ∧ (bare a, ok) = ans L now ∧ Ok B w' a ∧ ∃ v', Step T B w s most v (if pop = true then (L.dropWhile fun m => come m now).tail else L.dropWhile fun m => come m now) w' v' := by
  obtain ⟨h1, h2, h3⟩ := h
  unfold ans
  cases hd : L.dropWhile fun m => come m now with
  | nil => exact ⟨mg0, false, h1 hd, rfl, ⟨Rd.nil _ _, (fun ad h => by cases h), by decide, by show 0 ≤ 70; omega⟩, by rw [hd] at h3; exact h3⟩
  | cons m R =>
    obtain ⟨m', he, hb, hok⟩ := h2 m R hd
    exact ⟨m', true, he, by rw [hb], hok, by rw [hd] at h3; exact h3⟩
/-- All queues, and blocks that are not touched. -/
structure Pl (w wr : World) (s x z : Nat) (most : Int) (v vx vz : Value) (L M : List Mg) (obs : List (Nat × Array Value × TypeId)) : Prop where
  q : Q 43 w.heap.size wr s most v L
  r : Q 41 w.heap.size wr x most vx M
  n : Q 43 w.heap.size wr z 0 vz []
  stp : Stp w.heap.size w wr
  sz : s ≠ z
  d1 : ∀ g, v.ownBlock = some g → vx.ownBlock ≠ some g
  d2 : ∀ g, v.ownBlock = some g → vz.ownBlock ≠ some g
  d3 : ∀ g, vx.ownBlock = some g → vz.ownBlock ≠ some g
  ob : ∀ o ∈ obs, wr.heap[o.1]? = some (.cells o.2.1 o.2.2 (0, 0)) ∧ o.2.2 ≠ 24 ∧ o.2.2 ≠ 41 ∧ o.2.2 ≠ 43
section
variable {w wr w' : World} {s x z : Nat} {most : Int} {v vx vz : Value} {L M : List Mg} {obs : List (Nat × Array Value × TypeId)}
theorem Pl.bw (h : Pl w wr s x z most v vx vz L M obs) : Below w.heap.size w wr := h.stp.below (Nat.le_refl _)
theorem Pl.below (h : Pl w wr s x z most v vx vz L M obs) (hb : Below wr.heap.size wr w') : Pl w w' s x z most v vx vz L M obs :=
  ⟨h.q.below hb, h.r.below hb, h.n.below hb, h.stp.trans (Stp.of_below hb), h.sz, h.d1, h.d2, h.d3, fun o ho => ⟨(hb.block _ (lt_of_block (h.ob o ho).1)).trans (h.ob o ho).1, (h.ob o ho).2⟩⟩
theorem Pl.add (h : Pl w wr s x z most v vx vz L M obs) {b : Nat} {c : Array Value} {t : TypeId} (hb : wr.heap[b]? = some (.cells c t (0, 0))) (h1 : t ≠ 24) (h2 : t ≠ 41) (h3 : t ≠ 43) : Pl w wr s x z most v vx vz L M ((b, c, t) :: obs) :=
  ⟨h.q, h.r, h.n, h.stp, h.sz, h.d1, h.d2, h.d3, fun o ho => by
    rcases List.mem_cons.1 ho with rfl | ho
    · exact ⟨hb, h1, h2, h3⟩
    · exact h.ob o ho⟩
theorem Pl.less {o : Nat × Array Value × TypeId} (h : Pl w wr s x z most v vx vz L M (o :: obs)) : Pl w wr s x z most v vx vz L M obs :=
  ⟨h.q, h.r, h.n, h.stp, h.sz, h.d1, h.d2, h.d3, fun o ho => h.ob o (by simp [ho])⟩
/-- A block of another type is not the queue's. -/
theorem q_apart {T T' : TypeId} {B : Nat} {wr : World} {s b : Nat} {most : Int} {v : Value} {L : List Mg} {c : Array Value} {f : Nat × Nat} (h : Q T B wr s most v L) (hb : wr.heap[b]? = some (.cells c T' f)) (h1 : T' ≠ T) (h2 : T' ≠ 24) : b ∉ s :: v.ownBlock.toList := by
  intro hm
  rcases List.mem_cons.1 hm with rfl | hm
  · rw [h.st] at hb; injection hb with hb; injection hb with _ hb; exact h1 hb.symm
  · obtain ⟨cur, hc⟩ := h.win.type (g := b) (by simpa using hm)
    rw [hc] at hb; injection hb with hb; injection hb with _ hb; exact h2 hb.symm
theorem own_apart {T T' : TypeId} {B : Nat} {wr : World} {s s' : Nat} {most most' : Int} {v v' : Value} {L L' : List Mg} (h : Q T B wr s most v L) (k : Q T' B wr s' most' v' L') (hT : T ≠ 24) (hd : ∀ g, v.ownBlock = some g → v'.ownBlock ≠ some g) : ∀ g, v'.ownBlock = some g → g ∉ s :: v.ownBlock.toList := by
  intro g hg hm
  rcases List.mem_cons.1 hm with rfl | hm
  · obtain ⟨cur, hc⟩ := k.win.type hg
    have := h.st
    rw [hc] at this; injection this with this; injection this with _ this; exact hT this.symm
  · exact hd g (by simpa using hm) hg
theorem Pl.stepq (h : Pl w wr s x z most v vx vz L M obs) {L' : List Mg} {v' : Value} (k : Step 43 w.heap.size wr s most v L' w' v') : Pl w w' s x z most v' vx vz L' M obs := by
  refine ⟨k.q, h.r.kept k.tch k.stp (q_apart h.q h.r.st (by decide) (by decide)) (own_apart h.q h.r (by decide) h.d1), h.n.kept k.tch k.stp ?_ (own_apart h.q h.n (by decide) h.d2), h.stp.trans k.stp, h.sz, ?_, ?_, h.d3, fun o ho => ⟨(k.tch.block _ (lt_of_block (h.ob o ho).1) (q_apart h.q (h.ob o ho).1 (h.ob o ho).2.2.2 (h.ob o ho).2.1)).trans (h.ob o ho).1, (h.ob o ho).2⟩⟩
  · intro hm
    rcases List.mem_cons.1 hm with e | hm
    · exact h.sz e.symm
    · obtain ⟨cur, hc⟩ := h.q.win.type (g := z) (by simpa using hm)
      have := h.n.st
      rw [hc] at this; injection this with this; injection this with _ this; exact absurd this (by decide)
  · intro g hg hg2
    rcases k.loc g hg with h1 | h1
    · exact h.d1 g h1 hg2
    · have := h.r.win.lt hg2; omega
  · intro g hg hg2
    rcases k.loc g hg with h1 | h1
    · exact h.d2 g h1 hg2
    · have := h.n.win.lt hg2; omega
theorem Pl.stepr (h : Pl w wr s x z most v vx vz L M obs) {M' : List Mg} {v' : Value} (k : Step 41 w.heap.size wr x most vx M' w' v') : Pl w w' s x z most v v' vz L M' obs := by
  refine ⟨h.q.kept k.tch k.stp (q_apart h.r h.q.st (by decide) (by decide)) (own_apart h.r h.q (by decide) (fun g hg hg2 => h.d1 g hg2 hg)), k.q, h.n.kept k.tch k.stp (q_apart h.r h.n.st (by decide) (by decide)) (own_apart h.r h.n (by decide) h.d3), h.stp.trans k.stp, h.sz, ?_, h.d2, ?_, fun o ho => ⟨(k.tch.block _ (lt_of_block (h.ob o ho).1) (q_apart h.r (h.ob o ho).1 (h.ob o ho).2.2.1 (h.ob o ho).2.1)).trans (h.ob o ho).1, (h.ob o ho).2⟩⟩
  · intro g hg hg2
    rcases k.loc g hg2 with h1 | h1
    · exact h.d1 g hg h1
    · have := h.q.win.lt hg; omega
  · intro g hg hg2
    rcases k.loc g hg with h1 | h1
    · exact h.d3 g h1 hg2
    · have := h.n.win.lt hg2; omega
theorem Pl.stepn (h : Pl w wr s x z most v vx vz L M obs) {v' : Value} (k : Step 43 w.heap.size wr z 0 vz [] w' v') : Pl w w' s x z most v vx v' L M obs := by
  refine ⟨h.q.kept k.tch k.stp ?_ (own_apart h.n h.q (by decide) (fun g hg hg2 => h.d2 g hg2 hg)), h.r.kept k.tch k.stp (q_apart h.n h.r.st (by decide) (by decide)) (own_apart h.n h.r (by decide) (fun g hg hg2 => h.d3 g hg2 hg)), k.q, h.stp.trans k.stp, h.sz, h.d1, ?_, ?_, fun o ho => ⟨(k.tch.block _ (lt_of_block (h.ob o ho).1) (q_apart h.n (h.ob o ho).1 (h.ob o ho).2.2.2 (h.ob o ho).2.1)).trans (h.ob o ho).1, (h.ob o ho).2⟩⟩
  · intro hm
    rcases List.mem_cons.1 hm with e | hm
    · exact h.sz e
    · obtain ⟨cur, hc⟩ := h.n.win.type (g := s) (by simpa using hm)
      have := h.q.st
      rw [hc] at this; injection this with this; injection this with _ this; exact absurd this (by decide)
  · intro g hg hg2
    rcases k.loc g hg2 with h1 | h1
    · exact h.d2 g hg h1
    · have := h.q.win.lt hg; omega
  · intro g hg hg2
    rcases k.loc g hg2 with h1 | h1
    · exact h.d3 g hg h1
    · have := h.r.win.lt hg; omega
/-- A cell of the call's own is stored into. -/
theorem Pl.scratch (h : Pl w wr s x z most v vx vz L M obs) {t : Nat} {c : Array Value} (ht : Tch [t] wr w') (hc : wr.heap[t]? = some (.cells c 24 (0, 0))) (hB : w.heap.size ≤ t) (h1 : v.ownBlock ≠ some t) (h2 : vx.ownBlock ≠ some t) (h3 : vz.ownBlock ≠ some t) : Pl w w' s x z most v vx vz L M obs := by
  have st : Stp w.heap.size wr w' := Stp.of_tch ht (by
    intro i hi hf
    obtain rfl : i = t := by simpa using hi
    rcases hf with hf | ⟨cur, f, hcc⟩
    · omega
    · rw [hc] at hcc; injection hcc with hcc; injection hcc with _ hcc; exact absurd hcc (by decide))
  have key : ∀ {b : Nat} {c' : Array Value} {T : TypeId}, wr.heap[b]? = some (.cells c' T (0, 0)) → T ≠ 24 → b ∉ [t] := by
    intro b c' T hb hT hm
    obtain rfl : b = t := by simpa using hm
    rw [hc] at hb; injection hb with hb; injection hb with _ hb; exact hT hb.symm
  exact ⟨h.q.kept ht st (key h.q.st (by decide)) (fun g hg hm => h1 (by rw [hg]; congr 1; simpa using hm)), h.r.kept ht st (key h.r.st (by decide)) (fun g hg hm => h2 (by rw [hg]; congr 1; simpa using hm)), h.n.kept ht st (key h.n.st (by decide)) (fun g hg hm => h3 (by rw [hg]; congr 1; simpa using hm)), h.stp.trans st, h.sz, h.d1, h.d2, h.d3, fun o ho => ⟨(ht.block _ (lt_of_block (h.ob o ho).1) (key (h.ob o ho).1 (h.ob o ho).2.1)).trans (h.ob o ho).1, (h.ob o ho).2⟩⟩
end
/-! ### At nil -/
theorem len_nil (w : World) : Calls Try.prog 15 #[.pointer none] w fun e w' => e = .returned (.int .i64 0) ∧ w = w' := by
  go_enter Try.func15, Try.ntmps15
  go_wp2
  go_ret
  exact ⟨rfl, rfl⟩
theorem all_nil (w : World) : Calls Try.prog 24 #[.pointer none] w fun e w' => e = .returned (.slice none 0 0) ∧ w = w' := by
  go_enter Try.func24, Try.ntmps24
  go_wp2
  go_ret
  exact ⟨rfl, rfl⟩
theorem expire_nil (w : World) (now : Int) : Calls Try.prog 21 #[.pointer none, .int .i64 now] w fun e w' => e = .returned (.int .i64 0) ∧ Below w.heap.size w w' := by
  have HB := Lib.hid (alloc_below w (.cells #[.int .i64 now] 3))
  have HL := Lib.hid (fun W => len_nil W)
  go_enter Try.func21, Try.ntmps21
  go_wp2_with fail
  refine (HL.out _).mono ?_
  rintro e w2 ⟨rfl, rfl⟩
  go_wp2_with fail
  refine (HL.out _).mono ?_
  rintro e w2 ⟨rfl, rfl⟩
  go_wp2_with fail
  go_ret
  exact ⟨rfl, HB.out⟩
theorem push_nil (w : World) (m : Mg) : Calls Try.prog 13 #[.pointer none, m.val] w fun e w' => e = .returned (.bool false) ∧ Below w.heap.size w w' := by
  have HB := Lib.hid (alloc_below w (.cells #[.string m.topic, .string m.payload, .int .i64 m.qos, .bool m.retain, .slice m.pA m.props.length m.pc, .string m.from_, .int .i64 m.until_, .int .i64 m.seq, .string m.group] 24))
  unfold Mg.val
  go_enter Try.func13, Try.ntmps13
  go_upto_region 1 with (fail)
  refine wp_region_cls (Dr _) (dr_drew _) (by kernel_rfl) (by kernel_rfl) ?_
  repeat (go_big_quiet_step (fail))
  refine wpQuiet_nil ?_
  rintro wq ⟨nq, hnq⟩
  have hq := nq.ok
  rw [← hnq] at hq
  clear hnq nq
  have HE := Lib.hid (HB.out.trans ((Dr.below hq).mono HB.out.size))
  clear hq
  go_wp2_with fail
  go_ret
  exact ⟨rfl, HE.out⟩
set_option maxHeartbeats 1000000 in
theorem first_nil (w : World) (now : Int) : Calls Try.prog 19 #[.pointer none, .int .i64 now] w fun e w' => e = .returned (.tuple #[mg0.val, .bool false]) ∧ Below w.heap.size w w' := by
  have hb := alloc_below w (.cells #[.string ⟨#[]⟩, .string ⟨#[]⟩, .int .i64 0, .bool false, .slice none 0 0, .string ⟨#[]⟩, .int .i64 0, .int .i64 0, .string ⟨#[]⟩] 24)
  have hz := heap_alloc_new w (.cells #[.string ⟨#[]⟩, .string ⟨#[]⟩, .int .i64 0, .bool false, .slice none 0 0, .string ⟨#[]⟩, .int .i64 0, .int .i64 0, .string ⟨#[]⟩] 24)
  obtain ⟨W, hW⟩ : ∃ W, W = w.alloc (.cells #[.string ⟨#[]⟩, .string ⟨#[]⟩, .int .i64 0, .bool false, .slice none 0 0, .string ⟨#[]⟩, .int .i64 0, .int .i64 0, .string ⟨#[]⟩] 24) := ⟨_, rfl⟩
  have HW := Lib.hid hW
  rw [← hW] at hb hz
  have HL := Lib.hid (fun W => len_nil W)
  have HZ := Lib.hid hz
  have HB := Lib.hid hb
  have c0 : W.cell? ⟨w.heap.size, 0, none⟩ = some (.string ⟨#[]⟩) := cell_of HZ.out rfl
  have c1 : W.cell? ⟨w.heap.size, 1, none⟩ = some (.string ⟨#[]⟩) := cell_of HZ.out rfl
  have c2 : W.cell? ⟨w.heap.size, 2, none⟩ = some (.int .i64 0) := cell_of HZ.out rfl
  have c3 : W.cell? ⟨w.heap.size, 3, none⟩ = some (.bool false) := cell_of HZ.out rfl
  have c4 : W.cell? ⟨w.heap.size, 4, none⟩ = some (.slice none 0 0) := cell_of HZ.out rfl
  have c5 : W.cell? ⟨w.heap.size, 5, none⟩ = some (.string ⟨#[]⟩) := cell_of HZ.out rfl
  have c6 : W.cell? ⟨w.heap.size, 6, none⟩ = some (.int .i64 0) := cell_of HZ.out rfl
  have c7 : W.cell? ⟨w.heap.size, 7, none⟩ = some (.int .i64 0) := cell_of HZ.out rfl
  have c8 : W.cell? ⟨w.heap.size, 8, none⟩ = some (.string ⟨#[]⟩) := cell_of HZ.out rfl
  have f0 := free_of HZ.out 0
  have f1 := free_of HZ.out 1
  have f2 := free_of HZ.out 2
  have f3 := free_of HZ.out 3
  have f4 := free_of HZ.out 4
  have f5 := free_of HZ.out 5
  have f6 := free_of HZ.out 6
  have f7 := free_of HZ.out 7
  have f8 := free_of HZ.out 8
  have hp := put9 HZ.out (.string ⟨#[]⟩) (.string ⟨#[]⟩) (.int .i64 0) (.bool false) (.slice none 0 0) (.string ⟨#[]⟩) (.int .i64 0) (.int .i64 0) (.string ⟨#[]⟩)
  have p0 := cell_of hp (o := 0) (v := .string ⟨#[]⟩) rfl
  have p1 := cell_of hp (o := 1) (v := .string ⟨#[]⟩) rfl
  have p2 := cell_of hp (o := 2) (v := .int .i64 0) rfl
  have p3 := cell_of hp (o := 3) (v := .bool false) rfl
  have p4 := cell_of hp (o := 4) (v := .slice none 0 0) rfl
  have p5 := cell_of hp (o := 5) (v := .string ⟨#[]⟩) rfl
  have p6 := cell_of hp (o := 6) (v := .int .i64 0) rfl
  have p7 := cell_of hp (o := 7) (v := .int .i64 0) rfl
  have p8 := cell_of hp (o := 8) (v := .string ⟨#[]⟩) rfl
  have HTE := Lib.hid (put9_tch W (w.heap.size) (.string ⟨#[]⟩) (.string ⟨#[]⟩) (.int .i64 0) (.bool false) (.slice none 0 0) (.string ⟨#[]⟩) (.int .i64 0) (.int .i64 0) (.string ⟨#[]⟩))
  have HE := Lib.hid (((Tch.of_below (S := [w.heap.size]) hb).trans HTE.out).below (Nat.le_refl _) (by simp))
  clear hb hz hW hp
  go_enter Try.func19, Try.ntmps19
  go_upto_region 1 with (fail)
  rw [← HW.out]
  clear HW
  go_loopw [] (fun wr => wr = W) (fun wr => 1)
  case atStart => rfl
  case round =>
    obtain rfl := hrel
    go_wp2_with fail
    refine (HL.out _).mono ?_
    rintro e w2 ⟨rfl, rfl⟩
    go_wp2_with fail
    refine (HL.out _).mono ?_
    rintro e w2 ⟨rfl, rfl⟩
    go_wp2_with fail
    exact bodyPost_ret (v := .tuple #[.agg #[.string ⟨#[]⟩, .string ⟨#[]⟩, .int .i64 0, .bool false, .slice none 0 0, .string ⟨#[]⟩, .int .i64 0, .int .i64 0, .string ⟨#[]⟩], .bool false]) (by simp [mg0, Mg.val, results, Try.results19, go_sem, *]) rfl ⟨rfl, HE.out⟩
set_option maxHeartbeats 1000000 in
theorem pop_nil (w : World) (now : Int) : Calls Try.prog 14 #[.pointer none, .int .i64 now] w fun e w' => e = .returned (.tuple #[mg0.val, .bool false]) ∧ Below w.heap.size w w' := by
  have hb := alloc_below w (.cells #[.string ⟨#[]⟩, .string ⟨#[]⟩, .int .i64 0, .bool false, .slice none 0 0, .string ⟨#[]⟩, .int .i64 0, .int .i64 0, .string ⟨#[]⟩] 24)
  have hz := heap_alloc_new w (.cells #[.string ⟨#[]⟩, .string ⟨#[]⟩, .int .i64 0, .bool false, .slice none 0 0, .string ⟨#[]⟩, .int .i64 0, .int .i64 0, .string ⟨#[]⟩] 24)
  have HF := Lib.hid (fun W => first_nil W now)
  have HZ := Lib.hid hz
  have HB := Lib.hid hb
  clear hb hz
  go_enter Try.func14, Try.ntmps14
  go_wp2_with fail
  refine (HF.out _).mono ?_
  rintro e w2 ⟨rfl, hb⟩
  have hz2 := (hb.block _ (lt_of_block HZ.out)).trans HZ.out
  have hb3 := alloc_below w2 (.cells #[.string ⟨#[]⟩, .string ⟨#[]⟩, .int .i64 0, .bool false, .slice none 0 0, .string ⟨#[]⟩, .int .i64 0, .int .i64 0, .string ⟨#[]⟩] 24)
  have hx3 := heap_alloc_new w2 (.cells #[.string ⟨#[]⟩, .string ⟨#[]⟩, .int .i64 0, .bool false, .slice none 0 0, .string ⟨#[]⟩, .int .i64 0, .int .i64 0, .string ⟨#[]⟩] 24)
  obtain ⟨w3, hw3⟩ : ∃ w3, w3 = w2.alloc (.cells #[.string ⟨#[]⟩, .string ⟨#[]⟩, .int .i64 0, .bool false, .slice none 0 0, .string ⟨#[]⟩, .int .i64 0, .int .i64 0, .string ⟨#[]⟩] 24) := ⟨_, rfl⟩
  have HW3 := Lib.hid hw3
  rw [← hw3] at hb3 hx3
  have HZ3 := Lib.hid ((hb3.block _ (lt_of_block hz2)).trans hz2)
  have HX3 := Lib.hid hx3
  have hb03 := HB.out.trans ((hb.trans (hb3.mono hb.size)).mono HB.out.size)
  unfold Mg.val mg0
  have y0 : w3.cell? ⟨w2.heap.size, 0, none⟩ = some (.string ⟨#[]⟩) := cell_of HX3.out rfl
  have y1 : w3.cell? ⟨w2.heap.size, 1, none⟩ = some (.string ⟨#[]⟩) := cell_of HX3.out rfl
  have y2 : w3.cell? ⟨w2.heap.size, 2, none⟩ = some (.int .i64 0) := cell_of HX3.out rfl
  have y3 : w3.cell? ⟨w2.heap.size, 3, none⟩ = some (.bool false) := cell_of HX3.out rfl
  have y4 : w3.cell? ⟨w2.heap.size, 4, none⟩ = some (.slice none 0 0) := cell_of HX3.out rfl
  have y5 : w3.cell? ⟨w2.heap.size, 5, none⟩ = some (.string ⟨#[]⟩) := cell_of HX3.out rfl
  have y6 : w3.cell? ⟨w2.heap.size, 6, none⟩ = some (.int .i64 0) := cell_of HX3.out rfl
  have y7 : w3.cell? ⟨w2.heap.size, 7, none⟩ = some (.int .i64 0) := cell_of HX3.out rfl
  have y8 : w3.cell? ⟨w2.heap.size, 8, none⟩ = some (.string ⟨#[]⟩) := cell_of HX3.out rfl
  have c0 : w3.cell? ⟨w.heap.size, 0, none⟩ = some (.string ⟨#[]⟩) := cell_of HZ3.out rfl
  have c1 : w3.cell? ⟨w.heap.size, 1, none⟩ = some (.string ⟨#[]⟩) := cell_of HZ3.out rfl
  have c2 : w3.cell? ⟨w.heap.size, 2, none⟩ = some (.int .i64 0) := cell_of HZ3.out rfl
  have c3 : w3.cell? ⟨w.heap.size, 3, none⟩ = some (.bool false) := cell_of HZ3.out rfl
  have c4 : w3.cell? ⟨w.heap.size, 4, none⟩ = some (.slice none 0 0) := cell_of HZ3.out rfl
  have c5 : w3.cell? ⟨w.heap.size, 5, none⟩ = some (.string ⟨#[]⟩) := cell_of HZ3.out rfl
  have c6 : w3.cell? ⟨w.heap.size, 6, none⟩ = some (.int .i64 0) := cell_of HZ3.out rfl
  have c7 : w3.cell? ⟨w.heap.size, 7, none⟩ = some (.int .i64 0) := cell_of HZ3.out rfl
  have c8 : w3.cell? ⟨w.heap.size, 8, none⟩ = some (.string ⟨#[]⟩) := cell_of HZ3.out rfl
  have f0 := free_of HZ3.out 0
  have f1 := free_of HZ3.out 1
  have f2 := free_of HZ3.out 2
  have f3 := free_of HZ3.out 3
  have f4 := free_of HZ3.out 4
  have f5 := free_of HZ3.out 5
  have f6 := free_of HZ3.out 6
  have f7 := free_of HZ3.out 7
  have f8 := free_of HZ3.out 8
  have hp := put9 HZ3.out (.string ⟨#[]⟩) (.string ⟨#[]⟩) (.int .i64 0) (.bool false) (.slice none 0 0) (.string ⟨#[]⟩) (.int .i64 0) (.int .i64 0) (.string ⟨#[]⟩)
  have p0 := cell_of hp (o := 0) (v := .string ⟨#[]⟩) rfl
  have p1 := cell_of hp (o := 1) (v := .string ⟨#[]⟩) rfl
  have p2 := cell_of hp (o := 2) (v := .int .i64 0) rfl
  have p3 := cell_of hp (o := 3) (v := .bool false) rfl
  have p4 := cell_of hp (o := 4) (v := .slice none 0 0) rfl
  have p5 := cell_of hp (o := 5) (v := .string ⟨#[]⟩) rfl
  have p6 := cell_of hp (o := 6) (v := .int .i64 0) rfl
  have p7 := cell_of hp (o := 7) (v := .int .i64 0) rfl
  have p8 := cell_of hp (o := 8) (v := .string ⟨#[]⟩) rfl
  have HTE := Lib.hid (put9_tch w3 (w.heap.size) (.string ⟨#[]⟩) (.string ⟨#[]⟩) (.int .i64 0) (.bool false) (.slice none 0 0) (.string ⟨#[]⟩) (.int .i64 0) (.int .i64 0) (.string ⟨#[]⟩))
  have HE := Lib.hid (((Tch.of_below (S := [w.heap.size]) hb03).trans HTE.out).below (Nat.le_refl _) (by simp))
  clear hb hz2 hb3 hx3 hw3 hb03 hp
  go_upto_region 2 with (fail)
  rw [← HW3.out]
  clear HW3
  go_wp2_with fail
  exact bodyPost_ret (v := .tuple #[.agg #[.string ⟨#[]⟩, .string ⟨#[]⟩, .int .i64 0, .bool false, .slice none 0 0, .string ⟨#[]⟩, .int .i64 0, .int .i64 0, .string ⟨#[]⟩], .bool false]) (by simp [mg0, Mg.val, results, Try.results14, go_sem, *]) rfl ⟨rfl, HE.out⟩
end Go.Proofs.Ytjcdkgdeoeboaaa.QuW
