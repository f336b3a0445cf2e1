/- Few items, of few bytes; what must come. -/
import Derived.Test.YtclhgnlhejohgaaLaneG
set_option linter.unusedVariables false
set_option linter.unusedSimpArgs false
namespace Go.Proofs.Ytclhgnlhejohgaa.LaneW
open Go.RowKit Go.Proofs.Ytclhgnlhejohgaa.Tc Go.Proofs.Ytclhgnlhejohgaa.LaneP

def FewP (l : List Prp) : Prop := l.length ≤ 70 ∧ ∀ k (h : k < l.length), l[k].s.size ≤ 200 ∧ l[k].v.size ≤ 200
def BPost (p : Prop) (e : Ending) : Prop := ∃ b, e = .returned (.bool b) ∧ (b = true → p)
theorem BPost.of {p : Prop} {b : Bool} (h : b = true → p) : BPost p (.returned (.bool b)) := ⟨b, rfl, h⟩
theorem BPost.no {p : Prop} : BPost p (.returned (.bool false)) := ⟨false, rfl, fun h => absurd h (by decide)⟩
set_option maxRecDepth 100000 in
set_option maxHeartbeats 2000000 in
theorem fewp_any (w : World) (A : Option Addr) (cap : Nat) (l : List Prp) (hS : SliceIs kProp w A l) :
    Calls Try.prog 100 #[.slice A l.length cap] w fun e w' => BPost (FewP l) e ∧ w = w' := by
  have hlen := hS.len
  unfold maxLen at hlen
  have HS := Lib.hid hS
  clear hS
  go_enter Try.func100, Try.ntmps100
  go_wp2
  go_loop [3] (fun x => ∃ k : Nat, k ≤ l.length ∧ k ≤ 70 ∧ (∀ j (h : j < l.length), j < k → l[j].s.size ≤ 200 ∧ l[j].v.size ≤ 200) ∧ x = .int .i64 k) (fun x => l.length - (intOf x).toNat)
  case atStart => exact ⟨0, by omega, by omega, by intro j _ h; omega, rfl⟩
  case round =>
    obtain ⟨k, hk, hk70, hn, rfl⟩ := hrel
    have HN := Lib.hid hn
    clear hn
    by_cases hlt : k < l.length
    · by_cases h70 : k < 70
      · obtain ⟨b, off, rfl, hb, c0, c1, c2, c3, -⟩ := prop_cells HS.out hlt
        by_cases h1 : l[k].s.size ≤ 200
        · by_cases h2 : l[k].v.size ≤ 200
          · have HK := Lib.hid (And.intro h1 h2)
            go_wp2
            go_round
            case rel =>
              refine ⟨k + 1, by omega, by omega, ?_, by go_num⟩
              intro j hj hjk
              by_cases e : j = k
              · subst e; exact HK.out
              · exact HN.out j hj (by omega)
            case measure => simp [intOf]; omega
          · go_wp2
            go_ret
            exact ⟨BPost.no, rfl⟩
        · go_wp2
          go_ret
          exact ⟨BPost.no, rfl⟩
      · have h71 : ¬ l.length ≤ 70 := by omega
        go_wp2
        go_ret
        exact ⟨BPost.of (b := decide ((l.length : Int) ≤ 70)) (fun h => absurd (of_decide_eq_true h) (by omega)), rfl⟩
    · obtain rfl : k = l.length := by omega
      go_wp2
      go_ret
      exact ⟨BPost.of (b := decide ((l.length : Int) ≤ 70)) (fun _ => ⟨hk70, fun j hj => HN.out j hj hj⟩), rfl⟩
def SmallM (m : Mg) : Prop := m.topic.size ≤ 200 ∧ m.payload.size ≤ 200 ∧ m.from_.size ≤ 100 ∧ m.group.size ≤ 200 ∧ FewP m.props
set_option maxRecDepth 100000 in
set_option maxHeartbeats 2000000 in
theorem small_any (m : Mg) (w : World) (hS : SliceIs kProp w m.pA m.props) : Calls Try.prog 80 #[m.val] w fun e w' => BPost (SmallM m) e ∧ Below w.heap.size w w' := by
  obtain ⟨w2, hw2⟩ : ∃ w2, w2 = w.alloc (.cells m.vals.toArray 43) := ⟨_, rfl⟩
  have hb : Below w.heap.size w w2 := by rw [hw2]; exact alloc_below _ _
  have HF := Lib.hid (fewp_any w2 m.pA m.pc m.props (hS.below hb))
  have HB := Lib.hid hb
  have HB1 := Lib.hid (alloc_below w (.cells m.vals.toArray 43))
  rw [hw2] at HF
  unfold Mg.vals at HF HB1
  clear hb hS hw2 HB
  unfold Mg.val
  by_cases h1 : m.topic.size ≤ 200
  · by_cases h2 : m.payload.size ≤ 200
    · by_cases h3 : m.from_.size ≤ 100
      · by_cases h4 : m.group.size ≤ 200
        · go_enter Try.func80, Try.ntmps80
          go_wp2_with fail
          refine HF.out.mono ?_
          rintro e w3 ⟨⟨b, rfl, hf⟩, rfl⟩
          have HFF := Lib.hid hf
          clear hf
          go_wp2_with fail
          go_ret
          exact ⟨⟨b, rfl, fun h => ⟨h1, h2, h3, h4, HFF.out h⟩⟩, HB1.out⟩
        · go_enter Try.func80, Try.ntmps80
          go_wp2_with fail
          go_ret
          exact ⟨BPost.no, HB1.out⟩
      · go_enter Try.func80, Try.ntmps80
        go_wp2_with fail
        go_ret
        exact ⟨BPost.no, HB1.out⟩
    · go_enter Try.func80, Try.ntmps80
      go_wp2_with fail
      go_ret
      exact ⟨BPost.no, HB1.out⟩
  · go_enter Try.func80, Try.ntmps80
    go_wp2_with fail
    go_ret
    exact ⟨BPost.no, HB1.out⟩
def SmallI (x : Tc.It) : Prop := SmallM x.msg ∧ x.at_.size ≤ 100 ∧ x.behind.length ≤ 10
def FewI (l : List Tc.It) : Prop := l.length ≤ 20 ∧ ∀ k (h : k < l.length), SmallI l[k]
set_option maxRecDepth 100000 in
set_option maxHeartbeats 2000000 in
theorem few_any (w : World) (A : Option Addr) (cap : Nat) (l : List Tc.It) (hS : SliceIs kItem w A l) :
    Calls Try.prog 30 #[.slice A l.length cap] w fun e w' => BPost (FewI l) e ∧ Below w.heap.size w w' := by
  have hlen := hS.len
  unfold maxLen at hlen
  have HS := Lib.hid hS
  clear hS
  go_enter Try.func30, Try.ntmps30
  go_wp2
  go_loopw [3] (fun x wr => ∃ k : Nat, k ≤ l.length ∧ k ≤ 20 ∧ (∀ j (h : j < l.length), j < k → SmallI l[j]) ∧ x = .int .i64 k ∧ Below w.heap.size w wr) (fun x _ => l.length - (intOf x).toNat)
  case atStart => exact ⟨0, by omega, by omega, by intro j _ h; omega, rfl, Below.refl _ _⟩
  case round =>
    obtain ⟨k, hk, hk70, hn, rfl, hB⟩ := hrel
    have HN := Lib.hid hn
    have HB := Lib.hid hB
    clear hn
    by_cases hlt : k < l.length
    · by_cases h70 : k < 20
      · obtain ⟨x, hx⟩ : ∃ x, x = l[k] := ⟨_, rfl⟩
        have hg : l[k]? = some x := by rw [hx]; exact List.getElem?_eq_getElem hlt
        obtain ⟨b, off, rfl, hb, hcx, -, hps, -⟩ := item_cells (HS.out.below hB) hg
        have HCX := Lib.hid hcx
        obtain ⟨c0, c1, c2, c3, c4, c5, c6, c7, c8, c9, c10, c11⟩ := hcx
        have HSM := Lib.hid (small_any x.msg wr hps)
        have HX := Lib.hid hx
        unfold Mg.val at HSM
        clear hx hg hb hps hB
        go_wp2_with fail
        refine HSM.out.mono ?_
        rintro e w2 ⟨⟨sb, rfl, hs⟩, hb⟩
        have HSB := Lib.hid hs
        have HB2 := Lib.hid (then_below HB.out hb)
        obtain ⟨-, -, -, -, -, -, -, -, -, e9, e10, -⟩ := HCX.out.below hb
        clear hs hb c0 c1 c2 c3 c4 c5 c6 c7 c8 c9 c10 c11 HCX
        cases sb with
        | false =>
          go_wp2_with fail
          go_ret
          exact ⟨BPost.no, HB2.out⟩
        | true =>
          by_cases h1 : x.at_.size ≤ 100
          · by_cases h2 : x.behind.length ≤ 10
            · have HK := Lib.hid (show SmallI x from ⟨HSB.out rfl, h1, h2⟩)
              go_wp2_with fail
              go_roundw
              case rel =>
                refine ⟨k + 1, by omega, by omega, ?_, by go_num, HB2.out⟩
                intro j hj hjk
                by_cases e : j = k
                · subst e; rw [← HX.out]; exact HK.out
                · exact HN.out j hj (by omega)
              case measure => simp [intOf]; omega
            · go_wp2_with fail
              go_ret
              exact ⟨BPost.no, HB2.out⟩
          · go_wp2_with fail
            go_ret
            exact ⟨BPost.no, HB2.out⟩
      · have h71 : ¬ l.length ≤ 20 := by omega
        clear hB
        go_wp2
        go_ret
        exact ⟨BPost.of (b := decide ((l.length : Int) ≤ 20)) (fun h => absurd (of_decide_eq_true h) (by omega)), HB.out⟩
    · obtain rfl : k = l.length := by omega
      clear hB
      go_wp2
      go_ret
      exact ⟨BPost.of (b := decide ((l.length : Int) ≤ 20)) (fun _ => ⟨hk70, fun j hj => HN.out j hj hj⟩), HB.out⟩

/-! ### what must come -/
def mk (t a : ByteArray) : Tc.It := ⟨⟨t, ⟨#[]⟩, 0, false, none, 0, [], ⟨#[]⟩, 0, 0, ⟨#[]⟩⟩, a, none, 0, [], false⟩
theorem mk_led (w : World) (t a : ByteArray) (ht : t.size ≤ maxLen) (ha : a.size ≤ maxLen) : Led w (mk t a) :=
  ⟨⟨⟨ht, Nat.zero_le _, rfl, Nat.zero_le _, rfl, rfl, Nat.zero_le _⟩, ha⟩, SliceIs.nil _ _ _, SliceIs.nil _ _ _⟩
def l4 : List Tc.It := [mk ⟨#[97]⟩ ⟨#[120]⟩, mk ⟨#[97]⟩ ⟨#[]⟩, mk ⟨#[97]⟩ ⟨#[]⟩, mk ⟨#[98]⟩ ⟨#[]⟩]
theorem l4_own : ownP (pr l4) ⟨#[97]⟩ = (⟨#[120]⟩, true) := by decide
theorem l4_head : head (pr l4) = [1, 3] := by decide
theorem l4_may1 : may (pr l4) 1 ⟨#[120]⟩ = true := by decide
theorem l4_may2 : may (pr l4) 1 ⟨#[121]⟩ = false := by decide
theorem l4_may3 : may (pr l4) 2 ⟨#[120]⟩ = false := by decide
theorem l4_may4 : may (pr l4) 3 ⟨#[121]⟩ = true := by decide
theorem l4_sound : sound (pr l4) = true := by decide
theorem l4_led (w : World) : ∀ x ∈ l4, Led w x := by
  intro x hx
  simp only [l4, List.mem_cons, List.not_mem_nil, or_false] at hx
  rcases hx with rfl | rfl | rfl | rfl <;> exact mk_led w _ _ (by decide) (by decide)
theorem ints_new (w : World) (b : Nat) (hb : b = w.heap.size) (l : List Int) (hl : l.length ≤ maxLen) (hs : ∀ n ∈ l, (Lit.int .i64 n).wf = true) {cs : Array Value} (hcs : cs = (l.map (Value.int .i64)).toArray) : SliceIs aI (w.alloc (.cells cs 3)) (some ⟨b, 0, none⟩) l := by
  subst hb hcs
  refine ⟨hl, fun _ => ⟨w.heap.size, 0, rfl, by simp, fun i x hx => ⟨[.int .i64 x], ⟨rfl, hs x (List.mem_of_getElem? hx)⟩, fun j u hu => ?_⟩⟩⟩
  have hj : j = 0 := by
    have := (List.getElem?_eq_some_iff.1 hu).1
    simp at this
    omega
  subst hj
  rw [cellsInt, Nat.mul_one, Nat.add_zero, Nat.zero_add]
  refine cell_of (heap_alloc_new w _) ?_
  simpa [hx] using hu
set_option maxRecDepth 100000 in
set_option maxHeartbeats 2000000 in
theorem pawake_any (w : World) : Calls Try.prog 31 #[] w fun e w' => e = .returned (.bool true) ∧ Below w.heap.size w w' := by
  have hS : SliceIs kItem (w.alloc (.cells (l4.flatMap It.vals).toArray 45)) (some ⟨w.heap.size, 0, none⟩) l4 := items_of (heap_alloc_new w _) (fun i u h => by simpa using h) (by decide) (l4_led _)
  have h := owner_any _ _ 4 l4 ⟨#[97]⟩ hS
  rw [l4_own] at h
  have HOWN := Lib.hid h
  have HS := Lib.hid hS
  have HB := Lib.hid (alloc_below w (.cells (l4.flatMap It.vals).toArray 45))
  clear h hS
  go_enter Try.func31, Try.ntmps31
  go_wp2_with fail
  refine HOWN.out.mono ?_
  rintro e w1 ⟨rfl, hb⟩
  have HS1 := Lib.hid (HS.out.below hb)
  have HB1 := Lib.hid (then_below HB.out hb)
  clear hb HOWN HS HB
  have HH := Lib.hid (head_any w1 _ 4 l4 HS1.out (by decide))
  go_wp2_with fail
  refine HH.out.mono ?_
  rintro e w2 ⟨⟨v, rfl, hO⟩, hb⟩
  rw [l4_head] at hO
  obtain ⟨A, c, rfl, hI⟩ := hO.form
  have HS2 := Lib.hid (HS1.out.below hb)
  have HB2 := Lib.hid (then_below HB1.out hb)
  have hI2 := ints_new w2 w2.heap.size rfl [1, 3] (by decide) (by decide) (cs := #[.int .i64 1, .int .i64 3]) rfl
  have hb2 := alloc_below w2 (.cells #[.int .i64 1, .int .i64 3] 3)
  have HSI := Lib.hid (same_ints _ A _ c 2 (ints [1, 3]) [1, 3] (hI.below hb2) hI2)
  have HS3 := Lib.hid (HS2.out.below hb2)
  have HB3 := Lib.hid (then_below HB2.out hb2)
  clear hO hb hI hI2 hb2 HH
  go_wp2_with fail
  refine HSI.out.mono ?_
  rintro e w3 ⟨rfl, hd⟩
  rw [show eqI (ints [1, 3]) [1, 3] = true from rfl]
  have HS4 := Lib.hid (HS3.out.below (Dr.below hd))
  have HB4 := Lib.hid (then_below HB3.out (Dr.below hd))
  clear hd HSI HS3 HB3 HS2 HB2 HS1 HB1
  have h1 := may_any w3 _ 4 l4 1 ⟨#[120]⟩ HS4.out
  rw [l4_may1] at h1
  have H1 := Lib.hid h1
  clear h1
  go_wp2_with fail
  refine H1.out.mono ?_
  rintro e w4 ⟨rfl, hb⟩
  have HS5 := Lib.hid (HS4.out.below hb)
  have HB5 := Lib.hid (then_below HB4.out hb)
  clear hb H1 HS4 HB4
  have h1 := may_any w4 _ 4 l4 1 ⟨#[121]⟩ HS5.out
  rw [l4_may2] at h1
  have H1 := Lib.hid h1
  clear h1
  go_wp2_with fail
  refine H1.out.mono ?_
  rintro e w5 ⟨rfl, hb⟩
  have HS6 := Lib.hid (HS5.out.below hb)
  have HB6 := Lib.hid (then_below HB5.out hb)
  clear hb H1 HS5 HB5
  have h1 := may_any w5 _ 4 l4 2 ⟨#[120]⟩ HS6.out
  rw [l4_may3] at h1
  have H1 := Lib.hid h1
  clear h1
  go_wp2_with fail
  refine H1.out.mono ?_
  rintro e w6 ⟨rfl, hb⟩
  have HS7 := Lib.hid (HS6.out.below hb)
  have HB7 := Lib.hid (then_below HB6.out hb)
  clear hb H1 HS6 HB6
  have h1 := may_any w6 _ 4 l4 3 ⟨#[121]⟩ HS7.out
  rw [l4_may4] at h1
  have H1 := Lib.hid h1
  clear h1
  go_wp2_with fail
  refine H1.out.mono ?_
  rintro e w7 ⟨rfl, hb⟩
  have HS8 := Lib.hid (HS7.out.below hb)
  have HB8 := Lib.hid (then_below HB7.out hb)
  clear hb H1 HS7 HB7
  have h1 := sound_any w7 _ 4 l4 HS8.out (by decide)
  rw [l4_sound] at h1
  have H1 := Lib.hid h1
  clear h1
  go_wp2_with fail
  refine H1.out.mono ?_
  rintro e w8 ⟨rfl, hb⟩
  have HS9 := Lib.hid (HS8.out.below hb)
  have HB9 := Lib.hid (then_below HB8.out hb)
  clear hb H1 HS8 HB8
  obtain ⟨b, off, hA, -, hcx, -, -, -⟩ := item_cells HS9.out (k := 0) (x := mk ⟨#[97]⟩ ⟨#[120]⟩) rfl
  injection hA with hA
  injection hA with hA1 hA2
  subst hA1
  subst hA2
  rw [Nat.zero_mul, Nat.add_zero] at hcx
  obtain ⟨c0, c1, c2, c3, c4, c5, c6, c7, c8, -, -, -⟩ := hcx
  have HK := Lib.hid (key_any (mk ⟨#[97]⟩ ⟨#[120]⟩).msg w8)
  clear HS9
  simp only [mk] at c0 c1 c2 c3 c4 c5 c6 c7 c8
  simp only [mk, Mg.val] at HK
  go_wp2_with fail
  refine HK.out.mono ?_
  rintro e w9 ⟨rfl, hb⟩
  have HB10 := Lib.hid (then_below HB9.out hb)
  clear hb
  go_wp2_with fail
  go_ret
  exact ⟨rfl, HB10.out⟩
end Go.Proofs.Ytclhgnlhejohgaa.LaneW
