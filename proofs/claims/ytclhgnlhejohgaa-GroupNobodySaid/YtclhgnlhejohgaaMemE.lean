/- Members: an act, few acts, the examples. -/
import Derived.Test.YtclhgnlhejohgaaMemD
import Derived.OpenShut
set_option linter.unusedVariables false
set_option linter.unusedSimpArgs false
namespace Go.Proofs.Ytclhgnlhejohgaa.MemW
open Go.RowKit Go.Proofs.Ytclhgnlhejohgaa.Tc Go.Proofs.Ytclhgnlhejohgaa.MemP
open Go.Proofs.Ytclhgnlhejohgaa.PickW (OwnS Newer kS kI cells9 str_cell strs_new alloc_below)

structure Act_ where
  kind : Int
  client : ByteArray
  qos : Int
def Act_.val (a : Act_) : Value := .agg #[.int .i64 a.kind, .string a.client, .int .i64 a.qos]
set_option maxRecDepth 100000 in
noncomputable def kAct0 : Kd Try.prog 63 (Int × ByteArray × Int) := kStruct Try.underlying63 rfl (fCons rfl kI (fCons rfl kS (fOne rfl kI))) (by kernel_rfl)
noncomputable def kAct : Kd Try.prog 63 Act_ := kMap kAct0 (fun x => ⟨x.1, x.2.1, x.2.2⟩) (fun m => (m.kind, m.client, m.qos)) (fun _ => rfl)
theorem kAct_rel (w : World) (m : Act_) (cs : List Value) : kAct.rel w m cs ↔ cs = [.int .i64 m.kind, .string m.client, .int .i64 m.qos] ∧ m.client.size ≤ maxLen ∧ (Lit.int .i64 m.kind).wf = true ∧ (Lit.int .i64 m.qos).wf = true := by
  constructor
  · rintro ⟨c0, cr, rfl, ⟨rfl, h0⟩, ⟨c1, cr, rfl, ⟨rfl, h1⟩, ⟨rfl, h2⟩⟩⟩
    exact ⟨rfl, h1, h0, h2⟩
  · rintro ⟨rfl, h1, h0, h2⟩
    exact ⟨[_], _, rfl, ⟨rfl, h0⟩, [_], _, rfl, ⟨rfl, h1⟩, rfl, h2⟩
theorem cells63 : Try.prog.cellsOf 63 = 3 := by kernel_rfl
theorem act_cells {w : World} {A : Option Addr} {l : List Act_} (h : SliceIs kAct w A l) {k : Nat} {x : Act_} (hk : l[k]? = some x) :
    ∃ b off, A = some ⟨b, off, none⟩ ∧ b < w.heap.size ∧ w.cell? ⟨b, off + k * 3, none⟩ = some (.int .i64 x.kind) ∧ w.cell? ⟨b, off + k * 3 + 1, none⟩ = some (.string x.client) ∧ w.cell? ⟨b, off + k * 3 + 2, none⟩ = some (.int .i64 x.qos) ∧
      (Lit.int .i64 x.qos).wf = true := by
  have hlt := (List.getElem?_eq_some_iff.1 hk).1
  obtain ⟨b, off, hA, hb, hc⟩ := h.at_ (by omega)
  obtain ⟨cs, hr, hcell⟩ := hc k x hk
  obtain ⟨rfl, h1, h2, h3⟩ := (kAct_rel _ _ _).1 hr
  rw [cells63] at hcell
  exact ⟨b, off, hA, hb, hcell 0 _ rfl, hcell 1 _ rfl, hcell 2 _ rfl, h3⟩
theorem acts_open {H : Type} {enc : TypeId × Value → H} {w : World} {base : Nat} {sp : Nat → Bool} {held : Bool} {A : Option Addr} {len cap : Nat} {d : DataW H} {ps : List MemPlace}
    (h : DataW.Trod enc Try.prog w base sp held 52 (.slice A len cap) d ps) : ∃ xs : List Act_, xs.length = len ∧ SliceIs kAct w A xs := by
  obtain ⟨fuel, hf⟩ := h
  obtain ⟨A', c', xs, hcs, hx⟩ := slice_opens Try.underlying52 (by rw [cells63]; decide) kAct hf
  simp [Value.cells] at hcs
  obtain ⟨rfl, rfl, rfl⟩ := hcs
  exact ⟨xs, rfl, hx⟩
/-! ### A member.Members that the call made. -/
structure St (w0 w : World) (s : Nat) (v : Value) (l : List Mem) (gen : Int) : Prop where
  at_ : At w s v l gen
  new : w0.heap.size ≤ s
  newv : Newer w0 v
  bel : Below w0.heap.size w0 w
theorem St.below {w0 w w' : World} {s : Nat} {v : Value} {l : List Mem} {gen : Int} (h : St w0 w s v l gen) (hb : Below w.heap.size w w') : St w0 w' s v l gen := ⟨h.at_.below hb, h.new, h.newv, then_below h.bel hb⟩
theorem St.step {w0 w w' : World} {s : Nat} {v : Value} {l : List Mem} {gen : Int} (h : St w0 w s v l gen) {r : Bool × List Mem × Int} {e : Ending} (hp : APost s v w r e w') : ∃ v', e = .returned (.bool r.1) ∧ St w0 w' s v' r.2.1 r.2.2 := by
  obtain ⟨v', rfl, ha, ht⟩ := hp
  refine ⟨v', rfl, ha, h.new, ?_, ?_⟩
  · intro g hg
    rcases ht.loc g hg with h1 | h1
    · exact h.newv g h1
    · exact Nat.le_trans h.bel.size h1
  · refine h.bel.trans (ht.tch.below h.bel.size ?_)
    intro i hi
    rcases List.mem_cons.1 hi with rfl | hi
    · exact h.new
    · exact h.newv i (by simpa using hi)
theorem St.made (w0 w : World) (h : Below w0.heap.size w0 w) : St w0 (w.alloc (.cells #[.slice none 0 0, .int .i64 0] 57)) w.heap.size (.slice none 0 0) [] 0 :=
  ⟨⟨heap_alloc_new w _, Row.nil _⟩, h.size, PickW.Newer.nil _, then_below h (alloc_below w _)⟩
theorem APost.from {s : Nat} {v : Value} {w w1 w' : World} {r : Bool × List Mem × Int} {e : Ending} (hb : Below w.heap.size w w1) (h : APost s v w1 r e w') (hv : ∀ g, v.ownBlock = some g → g < w.heap.size) : APost s v w r e w' := by
  obtain ⟨v', rfl, ha, ht⟩ := h
  refine ⟨v', rfl, ha, (Tch.of_below hb).trans ht.tch, fun g hg => ?_⟩
  rcases ht.loc g hg with h1 | h1
  · exact .inl h1
  · exact .inr (Nat.le_trans hb.size h1)
set_option maxRecDepth 100000 in
set_option maxHeartbeats 2000000 in
theorem do_any (w : World) (s : Nat) (v : Value) (l : List Mem) (gen : Int) (h : At w s v l gen) (hl : l.length < 1000000) (hg0 : 0 ≤ gen) (hg1 : gen < 1000000) (kind : Int) (c : ByteArray) (hc : c.size ≤ maxLen) (q : Int) (hq : (Lit.int .i64 q).wf = true) :
    Calls Try.prog 45 #[.pointer (some ⟨s, 0, none⟩), .agg #[.int .i64 kind, .string c, .int .i64 q]] w (APost s v w (act l gen kind c q)) := by
  have hb := alloc_below w (.cells #[.int .i64 kind, .string c, .int .i64 q] 63)
  have h2 := h.below hb
  have hv : ∀ g, v.ownBlock = some g → g < w.heap.size := fun g hg => own_lt h.row.own hg
  have HV := Lib.hid (fun r e w' (hp : APost s v (w.alloc (.cells #[.int .i64 kind, .string c, .int .i64 q] 63)) r e w') => APost.from hb hp hv)
  generalize hP : APost s v w (act l gen kind c q) = PP
  have HPP := Lib.hid (show ∀ e w', APost s v w (act l gen kind c q) e w' → PP e w' by intro e w' h; rw [← hP]; exact h)
  clear hP h hv
  by_cases h1 : kind = 1
  · subst h1
    have HJ := Lib.hid (join_any _ s v l gen h2 hl hg0 hg1 c hc q hq)
    clear h2 hb
    go_enter Try.func45, Try.ntmps45
    go_wp2_with fail
    refine HJ.out.mono ?_
    intro e w' hp
    have HE := Lib.hid (HPP.out _ _ (HV.out _ _ _ hp))
    obtain ⟨v', rfl, -, -⟩ := hp
    go_wp2
    exact HE.out
  · by_cases h2' : kind = 2
    · subst h2'
      have HJ := Lib.hid (leave_any _ s v l gen h2 hl hg0 hg1 c q)
      clear h2 hb
      go_enter Try.func45, Try.ntmps45
      go_wp2_with fail
      refine HJ.out.mono ?_
      intro e w' hp
      have HE := Lib.hid (HPP.out _ _ (HV.out _ _ _ hp))
      obtain ⟨v', rfl, -, -⟩ := hp
      go_wp2
      exact HE.out
    · by_cases h3 : kind = 3
      · subst h3
        have HJ := Lib.hid (online_any _ s v l gen h2 hl hg0 hg1 c true q)
        rw [show kindOf true = 3 from rfl] at HJ
        clear h2 hb
        go_enter Try.func45, Try.ntmps45
        go_wp2_with fail
        refine HJ.out.mono ?_
        intro e w' hp
        have HE := Lib.hid (HPP.out _ _ (HV.out _ _ _ hp))
        obtain ⟨v', rfl, -, -⟩ := hp
        go_wp2
        exact HE.out
      · by_cases h4 : kind = 4
        · subst h4
          have HJ := Lib.hid (online_any _ s v l gen h2 hl hg0 hg1 c false q)
          rw [show kindOf false = 4 from rfl] at HJ
          clear h2 hb
          go_enter Try.func45, Try.ntmps45
          go_wp2_with fail
          refine HJ.out.mono ?_
          intro e w' hp
          have HE := Lib.hid (HPP.out _ _ (HV.out _ _ _ hp))
          obtain ⟨v', rfl, -, -⟩ := hp
          go_wp2
          exact HE.out
        · have HE := Lib.hid (show PP (.returned (.bool false)) (w.alloc (.cells #[.int .i64 kind, .string c, .int .i64 q] 63)) by
            refine HPP.out _ _ (HV.out _ _ _ ?_)
            have : act l gen kind c q = (false, l, gen) := by unfold act; rw [if_neg h1, if_neg h2', if_neg (by omega)]
            rw [this]
            exact ⟨v, rfl, h2, Tch.refl _ _, fun g hg => .inl hg⟩)
          clear h2 hb
          go_enter Try.func45, Try.ntmps45
          go_wp2
          exact HE.out
/-! ### Few -/
def FewA (l : List Act_) : Prop := l.length ≤ 60 ∧ ∀ k (h : k < l.length), l[k].client.size ≤ 100
def BPost (p : Prop) (e : Ending) : Prop := ∃ b, e = .returned (.bool b) ∧ (b = true → p)
theorem BPost.of {p : Prop} {b : Bool} (h : b = true → p) : BPost p (.returned (.bool b)) := ⟨b, rfl, h⟩
theorem BPost.no {p : Prop} : BPost p (.returned (.bool false)) := ⟨false, rfl, fun h => absurd h (by decide)⟩
set_option maxRecDepth 100000 in
set_option maxHeartbeats 2000000 in
theorem few_any (w : World) (A : Option Addr) (cap : Nat) (l : List Act_) (hS : SliceIs kAct w A l) :
    Calls Try.prog 43 #[.slice A l.length cap] w fun e w' => BPost (FewA l) e ∧ w = w' := by
  have hlen := hS.len
  unfold maxLen at hlen
  have HS := Lib.hid hS
  clear hS
  go_enter Try.func43, Try.ntmps43
  go_wp2
  go_loopw [3] (fun x wr => ∃ k : Nat, k ≤ l.length ∧ k ≤ 60 ∧ (∀ j (h : j < l.length), j < k → l[j].client.size ≤ 100) ∧ x = .int .i64 k ∧ w = wr) (fun x _ => l.length - (intOf x).toNat)
  case atStart => exact ⟨0, by omega, by omega, by intro j _ h; omega, rfl, by first | rfl | trivial⟩
  case round =>
    obtain ⟨k, hk, hk70, hn, rfl, rfl⟩ := hrel
    have HN := Lib.hid hn
    clear hn
    by_cases hlt : k < l.length
    · by_cases h70 : k < 60
      · obtain ⟨x, hx⟩ : ∃ x, x = l[k] := ⟨_, rfl⟩
        have hg : l[k]? = some x := by rw [hx]; exact List.getElem?_eq_getElem hlt
        obtain ⟨b, off, rfl, hb, c0, c1, c2, -⟩ := act_cells HS.out hg
        have HX := Lib.hid hx
        clear hx hg hb
        by_cases h1 : x.client.size ≤ 100
        · have h1' : ¬ 100 < x.client.size := by omega
          go_wp2_with fail
          go_roundw
          case rel =>
            refine ⟨k + 1, by omega, by omega, ?_, by go_num, by first | rfl | trivial⟩
            intro j hj hjk
            by_cases e : j = k
            · subst e; rw [← HX.out]; exact h1
            · exact HN.out j hj (by omega)
          case measure => simp [intOf]; omega
        · have h1' : 100 < x.client.size := by omega
          go_wp2_with fail
          go_ret
          exact ⟨BPost.no, by first | rfl | trivial⟩
      · have h71 : ¬ l.length ≤ 60 := by omega
        go_wp2
        go_ret
        exact ⟨BPost.of (b := decide ((l.length : Int) ≤ 60)) (fun h => absurd (of_decide_eq_true h) (by omega)), by first | rfl | trivial⟩
    · obtain rfl : k = l.length := by omega
      go_wp2
      go_ret
      exact ⟨BPost.of (b := decide ((l.length : Int) ≤ 60)) (fun _ => ⟨hk70, fun j hj => HN.out j hj hj⟩), by first | rfl | trivial⟩
/-! ### The examples -/
def cA : ByteArray := ⟨#[97]⟩
def cB : ByteArray := ⟨#[98]⟩
def m1 : List Mem := [⟨cA, 1, 1, true⟩]
def m2 : List Mem := [⟨cA, 1, 1, true⟩, ⟨cB, 2, 2, true⟩]
def m3 : List Mem := [⟨cA, 1, 2, true⟩, ⟨cB, 2, 2, true⟩]
def m4 : List Mem := [⟨cA, 1, 2, false⟩, ⟨cB, 2, 2, true⟩]
def m5 : List Mem := [⟨cA, 1, 2, false⟩]
theorem cAB : cA ≠ cB := by decide
theorem x1 : act [] 0 1 cA 1 = (true, m1, 1) := rfl
theorem x2 : act m1 1 1 cB 2 = (true, m2, 2) := by simp [act, find, m1, m2, cAB, List.findIdx?_cons]
theorem x3 : act m2 2 1 cA 2 = (false, m3, 2) := by simp [act, find, m2, m3, List.findIdx?_cons]
theorem x4 : act m3 2 (kindOf false) cA 0 = (true, m4, 3) := by simp [act, find, m3, m4, kindOf, List.findIdx?_cons]
theorem x5 : act m4 3 2 cB 0 = (true, m5, 4) := by simp [act, find, m4, m5, cAB, List.eraseIdx, List.findIdx?_cons]
theorem o3 : owner m3 = cA := by simp [owner, here, m3]
theorem o4 : owner m4 = cB := by simp [owner, here, m4]
theorem o5 : owner m5 = ByteArray.empty := by simp [owner, here, m5]
theorem g4 : MemP.get m4 cB = some ⟨cB, 2, 2, true⟩ := by simp [MemP.get, find, m4, cAB, List.findIdx?_cons]
theorem h4 : here m4 = [cB] := by simp [here, m4]
set_option maxRecDepth 100000 in
set_option maxHeartbeats 4000000 in
theorem awake_any (w : World) : Calls Try.prog 44 #[] w fun e w' => e = .returned (.bool true) ∧ Below w.heap.size w w' := by
  have S0 := Lib.hid (St.made w w (Below.refl _ _))
  have hsA : cA.size ≤ maxLen := by decide
  have hsB : cB.size ≤ maxLen := by decide
  have hlA : cA.toList = [97] := by kernel_rfl
  have hlB : cB.toList = [98] := by kernel_rfl
  have hlE : ByteArray.empty.toList = [] := by kernel_rfl
  go_enter Try.func44, Try.ntmps44
  have HX := Lib.hid (join_any _ _ _ _ _ S0.out.at_ (by decide) (by decide) (by decide) cA hsA 1 (by decide))
  go_wp2_with fail
  refine HX.out.mono ?_
  intro e w1 hp
  rw [x1] at hp
  obtain ⟨v1, rfl, hst⟩ := S0.out.step hp
  have S1 := Lib.hid hst
  clear hp hst HX S0
  have HX := Lib.hid (join_any _ _ _ _ _ S1.out.at_ (by decide) (by decide) (by decide) cB hsB 2 (by decide))
  go_wp2_with fail
  refine HX.out.mono ?_
  intro e w2 hp
  rw [x2] at hp
  obtain ⟨v2, rfl, hst⟩ := S1.out.step hp
  have S2 := Lib.hid hst
  clear hp hst HX S1
  have HX := Lib.hid (join_any _ _ _ _ _ S2.out.at_ (by decide) (by decide) (by decide) cA hsA 2 (by decide))
  go_wp2_with fail
  refine HX.out.mono ?_
  intro e w3 hp
  rw [x3] at hp
  obtain ⟨v3, rfl, hst⟩ := S2.out.step hp
  have S3 := Lib.hid hst
  clear hp hst HX S2
  have HX := Lib.hid (owner_any _ _ _ _ _ S3.out.at_ (by decide))
  rw [o3] at HX
  go_wp2_with fail
  refine HX.out.mono ?_
  rintro e w4 ⟨rfl, hb⟩
  have S4 := Lib.hid (S3.out.below hb)
  clear hb HX S3
  have HX := Lib.hid (online_any _ _ _ _ _ S4.out.at_ (by decide) (by decide) (by decide) cA false 0)
  go_wp2_with fail
  refine HX.out.mono ?_
  intro e w5 hp
  rw [x4] at hp
  obtain ⟨v5, rfl, hst⟩ := S4.out.step hp
  have S5 := Lib.hid hst
  clear hp hst HX S4
  have HX := Lib.hid (get_any _ _ _ _ _ S5.out.at_ cB)
  rw [g4] at HX
  simp only [Option.getD_some, Option.isSome_some, val] at HX
  go_wp2_with fail
  refine HX.out.mono ?_
  rintro e w6 ⟨rfl, hb⟩
  have S6 := Lib.hid (S5.out.below hb)
  clear hb HX S5
  have S7 := Lib.hid (S6.out.below (alloc_below w6 (.cells #[.string cB, .int .i64 2, .int .i64 2, .bool true] 66)))
  have HX := Lib.hid (owner_any _ _ _ _ _ S7.out.at_ (by decide))
  rw [o4] at HX
  go_wp2_with fail
  refine HX.out.mono ?_
  rintro e w7 ⟨rfl, hb⟩
  have c1 : w7.cell? ⟨w6.heap.size, 1, none⟩ = some (.int .i64 2) := cell_of ((hb.block w6.heap.size (by simp)).trans (heap_alloc_new w6 _)) rfl
  have S8 := Lib.hid (S7.out.below hb)
  clear hb HX S7
  have HX := Lib.hid (gen_any _ _ _ _ _ S8.out.at_)
  go_wp2_with fail
  refine HX.out.mono ?_
  rintro e w8 ⟨rfl, rfl⟩
  clear HX
  have HX := Lib.hid (all_any _ _ _ _ _ S8.out.at_ (by decide))
  go_wp2_with fail
  refine HX.out.mono ?_
  rintro e w9 ⟨⟨va, rfl, hr⟩, hb⟩
  have S9 := Lib.hid (S8.out.below hb)
  obtain ⟨A9, cp9, rfl, -⟩ := hr.form
  rw [show m4.length = 2 from rfl]
  clear hb hr HX S8
  have HX := Lib.hid (here_any _ _ _ _ _ S9.out.at_ (by decide))
  rw [h4] at HX
  go_wp2_with fail
  refine HX.out.mono ?_
  rintro e w10 ⟨⟨va, rfl, hr⟩, hb⟩
  have S10 := Lib.hid (S9.out.below hb)
  obtain ⟨A10, cp10, rfl, -⟩ := hr.form
  rw [show [cB].length = 1 from rfl]
  clear hb hr HX S9
  have HX := Lib.hid (leave_any _ _ _ _ _ S10.out.at_ (by decide) (by decide) (by decide) cB 0)
  go_wp2_with fail
  refine HX.out.mono ?_
  intro e w11 hp
  rw [x5] at hp
  obtain ⟨v11, rfl, hst⟩ := S10.out.step hp
  have S11 := Lib.hid hst
  clear hp hst HX S10
  have HX := Lib.hid (owner_any _ _ _ _ _ S11.out.at_ (by decide))
  rw [o5] at HX
  go_wp2_with fail
  refine HX.out.mono ?_
  rintro e w12 ⟨rfl, hb⟩
  have HE := Lib.hid (S11.out.below hb).bel
  clear hb HX S11
  go_wp2_with fail
  go_ret
  exact ⟨rfl, HE.out⟩
end Go.Proofs.Ytclhgnlhejohgaa.MemW
