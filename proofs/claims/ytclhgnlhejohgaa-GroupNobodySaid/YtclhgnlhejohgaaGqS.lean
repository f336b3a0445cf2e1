/- A group's queue: acts, and what stays true. -/
import Derived.Test.YtclhgnlhejohgaaGqK
import Derived.Test.YtclhgnlhejohgaaGqG
import Derived.Test.YtclhgnlhejohgaaGqQ
set_option linter.unusedVariables false
set_option linter.unusedSimpArgs false
namespace Go.Proofs.Ytclhgnlhejohgaa.GrpW
open Go.Proofs.Ytclhgnlhejohgaa.Tc Go.Proofs.Ytclhgnlhejohgaa.GrpP
open Go.Proofs.Ytclhgnlhejohgaa.PickP (has has_iff robin turn from_ pickBy bestI bestI_some hash hash_mem least)
open Go.Proofs.Ytclhgnlhejohgaa.LaneW (pr pr_get)
open Go.Proofs.Ytclhgnlhejohgaa.MemP (Mem act find find_some find_none here get)

/-! ### who is chosen -/
theorem pickBy_mem {l : List ByteArray} (f : Nat → Int) (h : l ≠ []) : pickBy l f ∈ l := by
  obtain ⟨y, hy, hlt, -⟩ := bestI_some f (List.length_pos_iff.2 h)
  unfold pickBy
  rw [hy]
  show l.getD y.1 ByteArray.empty ∈ l
  rw [List.getD_eq_getElem?_getD, List.getElem?_eq_getElem hlt]
  exact List.getElem_mem hlt
theorem turn_mem {all : List ByteArray} {s : ByteArray} (f : Nat) : s ∈ turn all f ↔ s ∈ all := by
  unfold turn
  rw [List.mem_map]
  constructor
  · rintro ⟨k, hk, rfl⟩
    have hn : 0 < all.length := by have := List.mem_range.1 hk; omega
    have hlt := Nat.mod_lt (f + k) hn
    rw [List.getD_eq_getElem?_getD, List.getElem?_eq_getElem hlt]
    exact List.getElem_mem hlt
  · intro hs
    obtain ⟨i, hi, rfl⟩ := List.getElem_of_mem hs
    have hn : 0 < all.length := by omega
    refine ⟨(i + (all.length - f % all.length)) % all.length, List.mem_range.2 (Nat.mod_lt _ hn), ?_⟩
    have h1 : (f + (i + (all.length - f % all.length)) % all.length) % all.length = i := by
      rw [Nat.add_mod_mod]
      have h2 := Nat.div_add_mod f all.length
      have h3 := Nat.mod_lt f hn
      have h4 : f + (i + (all.length - f % all.length)) = i + all.length * (f / all.length + 1) := by
        rw [Nat.mul_add, Nat.mul_one]
        omega
      rw [h4, Nat.add_mul_mod_self_left, Nat.mod_eq_of_lt hi]
    rw [h1, List.getD_eq_getElem?_getD, List.getElem?_eq_getElem hi]
    rfl
theorem robin_mem {all free : List ByteArray} (last : ByteArray) (h : ∃ s ∈ all, has free s = true) : robin all free last ∈ all ∧ has free (robin all free last) = true := by
  obtain ⟨s, hs, hf⟩ := h
  unfold robin
  cases hr : (turn all (from_ all last)).find? (fun s => has free s) with
  | none =>
    have := List.find?_eq_none.1 hr s ((turn_mem _).2 hs)
    exact absurd hf (by simpa using this)
  | some y =>
    exact ⟨(turn_mem _).1 (List.mem_of_find?_eq_some hr), List.find?_some hr⟩
theorem oneP_ok {l free : List ByteArray} {s : ByteArray} (h : (oneP l s free).2 = true) : l ≠ [] ∧ oneP l s free = (s, true) ∧ has free s = true := by
  unfold oneP at h ⊢
  by_cases h0 : l = []
  · rw [if_pos h0] at h; cases h
  · rw [if_neg h0] at h ⊢
    exact ⟨h0, by rw [show has free s = true from h], h⟩
theorem here_iff {L : List Mem} {s : ByteArray} : s ∈ here L ↔ ∃ m ∈ L, m.client = s ∧ m.online = true := by
  unfold here
  rw [List.mem_map]
  constructor
  · rintro ⟨m, hm, rfl⟩
    obtain ⟨h1, h2⟩ := List.mem_filter.1 hm
    exact ⟨m, h1, rfl, h2⟩
  · rintro ⟨m, hm, rfl, ho⟩
    exact ⟨m, List.mem_filter.2 ⟨hm, ho⟩, rfl⟩
theorem may_here {L : List Mem} {x : It} {s : ByteArray} (h : s ∈ mayP L x) : s ∈ here L := by
  unfold mayP at h
  split at h
  · exact h
  · exact (List.mem_filter.1 h).1
theorem ready_iff {L : List Mem} {x : It} {free : List ByteArray} {s : ByteArray} : s ∈ readyP L x free ↔ s ∈ mayP L x ∧ has free s = true := by
  unfold readyP
  rw [List.mem_filter]
/-- Who is under way with somebody, is with one that is there. -/
def Conn (I : List It) (L : List Mem) : Prop := ∀ x ∈ I, x.at_ = ByteArray.empty ∨ ∃ m ∈ L, m.client = x.at_ ∧ m.online = true
theorem whom_ok {st : Int} {I : List It} {L : List Mem} {last : ByteArray} {k : Nat} {x : It} {free : List ByteArray} (hc : Conn I L) (h : (whomP st I L last k x free).2 = true) :
    has free (whomP st I L last k x free).1 = true ∧ (whomP st I L last k x free).1 ∈ here L ∧ (st = 3 → LaneP.may (pr I) k (whomP st I L last k x free).1 = true) := by
  unfold whomP at h ⊢
  by_cases h2 : st = 2
  · rw [if_pos h2] at h ⊢
    obtain ⟨h0, e, hf⟩ := oneP_ok h
    rw [e]
    exact ⟨hf, may_here (hash_mem _ h0), fun h3 => by omega⟩
  rw [if_neg h2] at h ⊢
  by_cases h3 : st = 3
  · rw [if_pos h3] at h ⊢
    cases ho : LaneP.owner (pr I) x.msg.topic with
    | some s =>
      rw [ho] at h
      simp only [Bool.and_eq_true] at h ⊢
      obtain ⟨hs, i, y, hy, hy1, hy2⟩ := LaneP.owner_iff ho
      rw [pr_get, Option.map_eq_some_iff] at hy
      obtain ⟨z, hz, rfl⟩ := hy
      refine ⟨h.1, ?_, fun _ => h.2⟩
      rcases hc z (List.mem_of_getElem? hz) with h4 | ⟨m, hm, h5, h6⟩
      · exact absurd (hy2.symm.trans h4) hs
      · exact here_iff.2 ⟨m, hm, h5.trans hy2, h6⟩
    | none =>
      rw [ho] at h
      simp only [Bool.and_eq_true] at h ⊢
      obtain ⟨h0, e, hf⟩ := oneP_ok h.1
      rw [e] at h ⊢
      exact ⟨hf, may_here (hash_mem _ h0), fun _ => h.2⟩
  rw [if_neg h3] at h ⊢
  by_cases h4 : st = 4
  · rw [if_pos h4] at h ⊢
    obtain ⟨h0, e, hf⟩ := oneP_ok h
    rw [e]
    exact ⟨hf, may_here (ready_iff.1 (pickBy_mem _ h0)).1, fun h3 => by omega⟩
  rw [if_neg h4] at h ⊢
  by_cases h5 : st = 5
  · rw [if_pos h5] at h ⊢
    simp only [Bool.and_eq_true] at h
    obtain ⟨h0, e, hf⟩ := oneP_ok h.1
    rw [e]
    refine ⟨hf, ?_, fun h3 => by omega⟩
    have := List.length_pos_iff.2 h0
    show (here L).getD 0 ByteArray.empty ∈ here L
    rw [List.getD_eq_getElem?_getD, List.getElem?_eq_getElem this]
    exact List.getElem_mem this
  rw [if_neg h5] at h ⊢
  obtain ⟨h0, e, hf⟩ := oneP_ok h
  rw [e]
  obtain ⟨s, hs⟩ := List.exists_mem_of_ne_nil _ h0
  obtain ⟨m, hm, hms, -⟩ := here_iff.1 (may_here (ready_iff.1 hs).1)
  obtain ⟨-, hr⟩ := robin_mem (all := L.map Mem.client) last ⟨s, List.mem_map.2 ⟨m, hm, hms⟩, (has_iff _ _).2 hs⟩
  exact ⟨hf, may_here (ready_iff.1 ((has_iff _ _).1 hr)).1, fun h3' => by omega⟩
/-- With Robin and Least somebody is told, if there is one. -/
theorem whom_goes {st : Int} (hst : st = 1 ∨ st = 4) (I : List It) (L : List Mem) (last : ByteArray) (k : Nat) (x : It) (free : List ByteArray) : (whomP st I L last k x free).2 = true ↔ readyP L x free ≠ [] := by
  constructor
  · intro h
    unfold whomP at h
    rw [if_neg (by omega), if_neg (by omega)] at h
    by_cases h4 : st = 4
    · rw [if_pos h4] at h
      exact (oneP_ok h).1
    · rw [if_neg h4, if_neg (by omega)] at h
      exact (oneP_ok h).1
  · intro h
    unfold whomP
    rw [if_neg (by omega), if_neg (by omega)]
    by_cases h4 : st = 4
    · rw [if_pos h4]
      unfold oneP
      rw [if_neg h]
      exact (ready_iff.1 (pickBy_mem _ h)).2
    · rw [if_neg h4, if_neg (by omega)]
      unfold oneP
      rw [if_neg h]
      obtain ⟨s, hs⟩ := List.exists_mem_of_ne_nil _ h
      obtain ⟨m, hm, hms, -⟩ := here_iff.1 (may_here (ready_iff.1 hs).1)
      obtain ⟨-, hr⟩ := robin_mem (all := L.map Mem.client) last ⟨s, List.mem_map.2 ⟨m, hm, hms⟩, (has_iff _ _).2 hs⟩
      exact (ready_iff.1 ((has_iff _ _).1 hr)).2

/-! ### what stays true -/
structure Sz (k : Nat) (x : It) : Prop where
  topic : x.msg.topic.size ≤ 200
  from_ : x.msg.from_.size ≤ 200
  props : x.msg.props.length < 1000000
  behind : x.behind.length ≤ k
structure Iv (k : Nat) (S : GS) : Prop where
  il : S.I.length ≤ k
  ll : S.L.length ≤ k
  g0 : 0 ≤ S.gen
  g1 : S.gen ≤ k
  names : ∀ m ∈ S.L, m.client.size ≤ 100
  mem : MemP.Inv S.L S.gen
  seqs : ∀ (i j : Nat) (x y : It), S.I[i]? = some x → S.I[j]? = some y → i < j → x.msg.seq < y.msg.seq
  top : ∀ x ∈ S.I, x.msg.seq ≤ k
  szs : ∀ x ∈ S.I, Sz k x
  room : (S.I.length : Int) ≤ max S.most 0
  conn : Conn S.I S.L
/-- Lanes are sound. -/
def Snd (I : List It) : Prop := ∀ x ∈ I, ∀ y ∈ I, x.msg.topic = y.msg.topic → x.at_ ≠ ByteArray.empty → y.at_ ≠ ByteArray.empty → x.at_ = y.at_
theorem snd_iff (I : List It) : LaneP.sound (pr I) = true ↔ Snd I := by
  rw [LaneP.sound_iff]
  constructor
  · intro h x hx y hy h1 h2 h3
    obtain ⟨i, hi, rfl⟩ := List.getElem_of_mem hx
    obtain ⟨j, hj, rfl⟩ := List.getElem_of_mem hy
    exact h i j (I[i].msg.topic, I[i].at_) (I[j].msg.topic, I[j].at_) (by rw [pr_get, List.getElem?_eq_getElem hi]; rfl) (by rw [pr_get, List.getElem?_eq_getElem hj]; rfl) h1 h2 h3
  · intro h i j x y hx hy h1 h2 h3
    rw [pr_get, Option.map_eq_some_iff] at hx hy
    obtain ⟨a, ha, rfl⟩ := hx
    obtain ⟨b, hb, rfl⟩ := hy
    exact h a (List.mem_of_getElem? ha) b (List.mem_of_getElem? hb) h1 h2 h3
theorem Iv.new (key : ByteArray) (st most : Int) : Iv 0 ⟨key, st, most, [], [], 0, ByteArray.empty⟩ :=
  ⟨Nat.le_refl _, Nat.le_refl _, Int.le_refl _, Int.le_refl _, by simp, MemP.Inv.nil, by simp, by simp, by simp, by show ((0 : Nat) : Int) ≤ _; omega, by intro x hx; cases hx⟩
theorem Iv.mono {k j : Nat} {S : GS} (h : Iv k S) (hk : k ≤ j) : Iv j S :=
  ⟨Nat.le_trans h.il hk, Nat.le_trans h.ll hk, h.g0, by have := h.g1; omega, h.names, h.mem, h.seqs, fun x hx => by have := h.top x hx; omega,
    fun x hx => ⟨(h.szs x hx).topic, (h.szs x hx).from_, (h.szs x hx).props, Nat.le_trans (h.szs x hx).behind hk⟩, h.room, h.conn⟩
/-- Fewer items. -/
theorem sub_seqs {l l' : List It} (hs : l'.Sublist l) (h : ∀ (i j : Nat) (x y : It), l[i]? = some x → l[j]? = some y → i < j → x.msg.seq < y.msg.seq) :
    ∀ (i j : Nat) (x y : It), l'[i]? = some x → l'[j]? = some y → i < j → x.msg.seq < y.msg.seq := by
  have hp : l.Pairwise (fun x y => x.msg.seq < y.msg.seq) := by
    rw [List.pairwise_iff_getElem]
    intro i j hi hj hij
    exact h i j _ _ (List.getElem?_eq_getElem hi) (List.getElem?_eq_getElem hj) hij
  have hq := hp.sublist hs
  rw [List.pairwise_iff_getElem] at hq
  intro i j x y hx hy hij
  obtain ⟨hi, rfl⟩ := List.getElem?_eq_some_iff.1 hx
  obtain ⟨hj, rfl⟩ := List.getElem?_eq_some_iff.1 hy
  exact hq i j hi hj hij
theorem Iv.sub {k : Nat} {S : GS} (h : Iv k S) {I' : List It} (hs : I'.Sublist S.I) : Iv k { S with I := I' } :=
  ⟨Nat.le_trans hs.length_le h.il, h.ll, h.g0, h.g1, h.names, h.mem, sub_seqs hs h.seqs, fun x hx => h.top x (hs.subset hx), fun x hx => h.szs x (hs.subset hx),
    by have := h.room; have := hs.length_le; show ((I'.length : Nat) : Int) ≤ max S.most 0; omega, fun x hx => h.conn x (hs.subset hx)⟩
theorem Snd.sub {I I' : List It} (h : Snd I) (hs : I'.Sublist I) : Snd I' := fun x hx y hy => h x (hs.subset hx) y (hs.subset hy)
/-- The same items, elsewhere. -/
theorem Iv.like {k : Nat} {S : GS} (h : Iv k S) {I' : List It} {L' : List Mem} {gen' : Int} {last : ByteArray} (hl : I'.length = S.I.length)
    (hx : ∀ (j : Nat) (y : It), I'[j]? = some y → ∃ x, S.I[j]? = some x ∧ y.msg = x.msg ∧ y.behind.length ≤ k) (hc : Conn I' L')
    (h1 : L'.length ≤ k) (h2 : 0 ≤ gen') (h3 : gen' ≤ k) (h4 : ∀ m ∈ L', m.client.size ≤ 100) (h5 : MemP.Inv L' gen') : Iv k { S with I := I', L := L', gen := gen', last := last } :=
  ⟨by show I'.length ≤ k; rw [hl]; exact h.il, h1, h2, h3, h4, h5, fun i j x y hi hj hij => by
      obtain ⟨x', hx', e1, -⟩ := hx i x hi
      obtain ⟨y', hy', e2, -⟩ := hx j y hj
      rw [e1, e2]
      exact h.seqs i j x' y' hx' hy' hij,
    fun y hy => by
      obtain ⟨j, hj, rfl⟩ := List.getElem_of_mem hy
      obtain ⟨x, hx', e1, -⟩ := hx j _ (List.getElem?_eq_getElem hj)
      rw [e1]
      exact h.top x (List.mem_of_getElem? hx'),
    fun y hy => by
      obtain ⟨j, hj, rfl⟩ := List.getElem_of_mem hy
      obtain ⟨x, hx', e1, e2⟩ := hx j _ (List.getElem?_eq_getElem hj)
      have := h.szs x (List.mem_of_getElem? hx')
      exact ⟨by rw [e1]; exact this.topic, by rw [e1]; exact this.from_, by rw [e1]; exact this.props, e2⟩,
    by have := h.room; show ((I'.length : Nat) : Int) ≤ max S.most 0; omega, hc⟩

/-! ### members -/
theorem act_names {L : List Mem} {gen kind : Int} {c : ByteArray} {q : Int} : ∀ m' ∈ (act L gen kind c q).2.1, m'.client = c ∨ ∃ m ∈ L, m'.client = m.client := by
  have hset : ∀ (i : Nat) (x y : Mem), L[i]? = some x → y.client = x.client → ∀ m' ∈ L.set i y, m'.client = c ∨ ∃ m ∈ L, m'.client = m.client := by
    intro i x y hx hy m' hm'
    rcases List.mem_or_eq_of_mem_set hm' with h | rfl
    · exact .inr ⟨m', h, rfl⟩
    · exact .inr ⟨x, List.mem_of_getElem? hx, hy⟩
  intro m' hm'
  unfold act at hm'
  split at hm'
  · cases hf : find L c with
    | none =>
      rw [hf] at hm'
      rcases List.mem_append.1 hm' with h | h
      · exact .inr ⟨m', h, rfl⟩
      · rw [List.mem_singleton] at h
        rw [h]
        exact .inl rfl
    | some i =>
      obtain ⟨x, hx, -, -⟩ := find_some hf
      rw [hf] at hm'
      simp only [hx] at hm'
      exact hset i x { x with qos := q } hx rfl m' hm'
  · split at hm'
    · cases hf : find L c with
      | none => rw [hf] at hm'; exact .inr ⟨m', hm', rfl⟩
      | some i => rw [hf] at hm'; exact .inr ⟨m', (List.eraseIdx_sublist L i).subset hm', rfl⟩
    · split at hm'
      · cases hf : find L c with
        | none => rw [hf] at hm'; exact .inr ⟨m', hm', rfl⟩
        | some i =>
          obtain ⟨x, hx, -, -⟩ := find_some hf
          rw [hf] at hm'
          simp only [hx] at hm'
          split at hm'
          · exact .inr ⟨m', hm', rfl⟩
          · exact hset i x { x with online := decide (kind = 3) } hx rfl m' hm'
      · exact .inr ⟨m', hm', rfl⟩
theorem set_keeps {L : List Mem} {i : Nat} {x y m : Mem} (hx : L[i]? = some x) (hm : m ∈ L) (hy : y.client = x.client) (ho : m.client = x.client → m.online = true → y.online = true) (hi : MemP.Inv L 0 ∨ True) (hd : ∀ (i j : Nat) (x y : Mem), L[i]? = some x → L[j]? = some y → x.client = y.client → i = j) :
    ∃ m' ∈ L.set i y, m'.client = m.client ∧ (m.online = true → m'.online = true) := by
  obtain ⟨j, hj, rfl⟩ := List.getElem_of_mem hm
  by_cases e : i = j
  · subst e
    refine ⟨y, List.mem_iff_getElem?.2 ⟨i, by rw [List.getElem?_set_self hj]⟩, ?_⟩
    have : L[i] = x := by rw [List.getElem?_eq_getElem hj] at hx; exact Option.some.inj hx
    rw [this] at ho ⊢
    exact ⟨hy, ho rfl⟩
  · exact ⟨L[j], List.mem_iff_getElem?.2 ⟨j, by rw [List.getElem?_set_ne e, List.getElem?_eq_getElem hj]⟩, rfl, id⟩
theorem act_keeps {L : List Mem} {gen kind : Int} {c : ByteArray} {q : Int} (hi : MemP.Inv L gen) {m : Mem} (hm : m ∈ L) (hk : m.client ≠ c ∨ kind = 1 ∨ kind = 3) :
    ∃ m' ∈ (act L gen kind c q).2.1, m'.client = m.client ∧ (m.online = true → m'.online = true) := by
  unfold act
  split
  · cases hf : find L c with
    | none => exact ⟨m, List.mem_append_left _ hm, rfl, id⟩
    | some i =>
      obtain ⟨x, hx, -, -⟩ := find_some hf
      simp only [hx]
      refine set_keeps (y := { x with qos := q }) hx hm rfl (fun h1 h2 => ?_) (.inr trivial) hi.dist
      obtain ⟨j, hj, rfl⟩ := List.getElem_of_mem hm
      have := hi.dist i j _ _ hx (List.getElem?_eq_getElem hj) h1.symm
      subst this
      have : L[i] = x := by rw [List.getElem?_eq_getElem hj] at hx; exact Option.some.inj hx
      rw [this] at h2
      exact h2
  · rename_i h1
    split
    · rename_i h2
      cases hf : find L c with
      | none => exact ⟨m, hm, rfl, id⟩
      | some i =>
        obtain ⟨x, hx, hxc, -⟩ := find_some hf
        have hne : m.client ≠ c := by rcases hk with h | h | h <;> first | exact h | omega
        refine ⟨m, ?_, rfl, id⟩
        rw [List.mem_eraseIdx_iff_getElem?]
        obtain ⟨j, hj, rfl⟩ := List.getElem_of_mem hm
        refine ⟨j, ?_, List.getElem?_eq_getElem hj⟩
        rintro rfl
        rw [List.getElem?_eq_getElem hj] at hx
        exact hne (by rw [Option.some.inj hx]; exact hxc)
    · rename_i h2
      split
      · rename_i h3
        cases hf : find L c with
        | none => exact ⟨m, hm, rfl, id⟩
        | some i =>
          obtain ⟨x, hx, hxc, -⟩ := find_some hf
          simp only [hx]
          split
          · exact ⟨m, hm, rfl, id⟩
          · refine set_keeps (y := { x with online := decide (kind = 3) }) hx hm rfl (fun h4 h5 => ?_) (.inr trivial) hi.dist
            rcases hk with h | h | h
            · exact absurd (h4.trans hxc) h
            · exact absurd h h1
            · show decide (kind = 3) = true
              rw [decide_eq_true h]
      · exact ⟨m, hm, rfl, id⟩
theorem act_same {L : List Mem} {gen kind : Int} {c : ByteArray} {q : Int} (h : (act L gen kind c q).1 = false) (hk : kind ≠ 1) : (act L gen kind c q).2.1 = L := by
  unfold act at h ⊢
  rw [if_neg hk] at h ⊢
  split
  · rename_i h2
    rw [if_pos h2] at h
    cases hf : find L c with
    | none => rfl
    | some i => rw [hf] at h; cases h
  · rename_i h2
    rw [if_neg h2] at h
    split
    · rename_i h3
      rw [if_pos h3] at h
      cases hf : find L c with
      | none => rfl
      | some i =>
        rw [hf] at h
        obtain ⟨x, hx, -, -⟩ := find_some hf
        simp only [hx] at h ⊢
        split
        · rfl
        · rename_i h4; rw [if_neg h4] at h; cases h
    · rfl
theorem act_bd {k : Nat} {S : GS} (h : Iv k S) (kind : Int) (c : ByteArray) (hc : c.size ≤ 100) (q : Int) :
    (act S.L S.gen kind c q).2.1.length ≤ k + 1 ∧ 0 ≤ (act S.L S.gen kind c q).2.2 ∧ (act S.L S.gen kind c q).2.2 ≤ ((k + 1 : Nat) : Int) ∧ (∀ m ∈ (act S.L S.gen kind c q).2.1, m.client.size ≤ 100) ∧ MemP.Inv (act S.L S.gen kind c q).2.1 (act S.L S.gen kind c q).2.2 := by
  have h1 := MemP.act_len S.L S.gen kind c q
  have h2 := MemP.act_gen S.L S.gen kind c q
  have h3 := h.ll
  have h4 := h.g0
  have h5 := h.g1
  refine ⟨by omega, ?_, ?_, fun m hm => ?_, MemP.act_inv h.mem kind c q⟩
  · rw [h2]; split <;> omega
  · rw [h2]; split <;> omega
  · rcases act_names m hm with e | ⟨n, hn, e⟩
    · rw [e]; exact hc
    · rw [e]; exact h.names n hn
theorem wt_msg (c : ByteArray) (x : It) : (wt c x).msg = x.msg := by unfold wt; split <;> rfl
theorem wt_behind (c : ByteArray) (x : It) : (wt c x).behind = x.behind := by unfold wt; split <;> rfl
theorem wt_at (c : ByteArray) (x : It) : ((wt c x).at_ = ByteArray.empty ∧ x.at_ = c) ∨ (wt c x = x ∧ x.at_ ≠ c) := by
  unfold wt
  split
  · rename_i h; exact .inl ⟨rfl, h⟩
  · rename_i h; exact .inr ⟨rfl, h⟩
theorem self_like {k : Nat} {S : GS} (h : Iv k S) : ∀ (j : Nat) (y : It), S.I[j]? = some y → ∃ x, S.I[j]? = some x ∧ y.msg = x.msg ∧ y.behind.length ≤ k + 1 :=
  fun j y hy => ⟨y, hy, rfl, by have := (h.szs y (List.mem_of_getElem? hy)).behind; omega⟩
theorem wt_like {k : Nat} {S : GS} (h : Iv k S) (c : ByteArray) : ∀ (j : Nat) (y : It), (S.I.map (wt c))[j]? = some y → ∃ x, S.I[j]? = some x ∧ y.msg = x.msg ∧ y.behind.length ≤ k + 1 := by
  intro j y hy
  rw [List.getElem?_map, Option.map_eq_some_iff] at hy
  obtain ⟨x, hx, rfl⟩ := hy
  exact ⟨x, hx, wt_msg c x, by rw [wt_behind]; have := (h.szs x (List.mem_of_getElem? hx)).behind; omega⟩
theorem Iv.mem1 {k : Nat} {S : GS} (h : Iv k S) (kind : Int) (c : ByteArray) (hc : c.size ≤ 100) (q : Int) (hk : kind = 1 ∨ kind = 3 ∨ (act S.L S.gen kind c q).1 = false ∧ kind ≠ 1) : Iv (k + 1) (memP S kind c q) := by
  obtain ⟨h1, h2, h3, h4, h5⟩ := act_bd h kind c hc q
  refine Iv.like (h.mono (Nat.le_succ k)) (I' := S.I) (last := S.last) rfl (self_like h) (fun x hx => ?_) h1 h2 h3 h4 h5
  rcases h.conn x hx with e | ⟨m, hm, e, ho⟩
  · exact .inl e
  · right
    rcases hk with hk | hk | ⟨hk, hk1⟩
    · obtain ⟨m', hm', e', ho'⟩ := act_keeps (q := q) (c := c) h.mem hm (.inr (.inl hk))
      exact ⟨m', hm', e'.trans e, ho' ho⟩
    · obtain ⟨m', hm', e', ho'⟩ := act_keeps (q := q) (c := c) h.mem hm (.inr (.inr hk))
      exact ⟨m', hm', e'.trans e, ho' ho⟩
    · rw [act_same hk hk1]
      exact ⟨m, hm, e, ho⟩
theorem Iv.mem2 {k : Nat} {S : GS} (h : Iv k S) (kind : Int) (c : ByteArray) (hc : c.size ≤ 100) (q : Int) : Iv (k + 1) { memP S kind c q with I := S.I.map (wt c) } := by
  obtain ⟨h1, h2, h3, h4, h5⟩ := act_bd h kind c hc q
  refine Iv.like (h.mono (Nat.le_succ k)) (I' := S.I.map (wt c)) (last := S.last) (List.length_map ..) (wt_like h c) (fun y hy => ?_) h1 h2 h3 h4 h5
  obtain ⟨x, hx, rfl⟩ := List.mem_map.1 hy
  rcases wt_at c x with ⟨e, -⟩ | ⟨e, hne⟩
  · exact .inl e
  · rw [e]
    rcases h.conn x hx with e | ⟨m, hm, e, ho⟩
    · exact .inl e
    · right
      obtain ⟨m', hm', e', ho'⟩ := act_keeps (kind := kind) (q := q) (c := c) h.mem hm (.inl (by rw [e]; exact hne))
      exact ⟨m', hm', e'.trans e, ho' ho⟩
theorem Iv.join {k : Nat} {S : GS} (h : Iv k S) (c : ByteArray) (hc : c.size ≤ 100) (q : Int) : Iv (k + 1) (memP S 1 c q) := h.mem1 1 c hc q (.inl rfl)
theorem Iv.leave {k : Nat} {S : GS} (h : Iv k S) (c : ByteArray) (hc : c.size ≤ 100) : Iv (k + 1) (leaveP S c) := by
  unfold leaveP
  split
  · exact h.mem2 2 c hc 0
  · rename_i hn
    exact h.mem1 2 c hc 0 (.inr (.inr ⟨by simpa using hn, by omega⟩))
theorem get_none {L : List Mem} {c : ByteArray} (h : get L c = none) : find L c = none := by
  unfold MemP.get at h
  cases hf : find L c with
  | none => rfl
  | some i =>
    obtain ⟨x, hx, -, -⟩ := find_some hf
    rw [hf] at h
    rw [Option.bind_some, hx] at h
    cases h
theorem Iv.online {k : Nat} {S : GS} (h : Iv k S) (c : ByteArray) (hc : c.size ≤ 100) (is : Bool) : Iv (k + 1) (onlineP S c is) := by
  unfold onlineP
  cases is with
  | true =>
    rw [if_neg (by simp)]
    exact h.mem1 3 c hc 0 (.inr (.inl rfl))
  | false =>
    cases hg : get S.L c with
    | none =>
      rw [if_neg (by simp)]
      refine h.mem1 4 c hc 0 (.inr (.inr ⟨?_, by omega⟩))
      unfold act
      rw [if_neg (by omega), if_neg (by omega), if_pos (by omega), get_none hg]
    | some m =>
      rw [if_pos (by simp)]
      exact h.mem2 4 c hc 0
theorem snd_same {I I' : List It} (h : Snd I) (hx : ∀ y ∈ I', ∃ x ∈ I, y.msg = x.msg ∧ (y.at_ = x.at_ ∨ y.at_ = ByteArray.empty)) : Snd I' := by
  intro a ha b hb h1 h2 h3
  obtain ⟨x, hx', e1, e2⟩ := hx a ha
  obtain ⟨y, hy', e3, e4⟩ := hx b hb
  rcases e2 with e2 | e2
  · rcases e4 with e4 | e4
    · rw [e2, e4]
      rw [e2] at h2
      rw [e4] at h3
      exact h x hx' y hy' (by rw [← e1, ← e3]; exact h1) h2 h3
    · exact absurd e4 h3
  · exact absurd e2 h2
theorem Snd.wt {I : List It} (h : Snd I) (c : ByteArray) : Snd (I.map (wt c)) := snd_same h fun y hy => by
  obtain ⟨x, hx, rfl⟩ := List.mem_map.1 hy
  refine ⟨x, hx, wt_msg c x, ?_⟩
  rcases wt_at c x with ⟨e, -⟩ | ⟨e, -⟩
  · exact .inr e
  · rw [e]; exact .inl rfl
theorem Snd.leave {S : GS} (h : Snd S.I) (c : ByteArray) : Snd (leaveP S c).I := by
  unfold leaveP
  split
  · exact h.wt c
  · exact h
theorem Snd.online {S : GS} (h : Snd S.I) (c : ByteArray) (is : Bool) : Snd (onlineP S c is).I := by
  unfold onlineP
  show Snd (if ((get S.L c).isSome && !is) = true then { S with I := S.I.map (GrpW.wt c) } else S).I
  split
  · exact h.wt c
  · exact h
/-! ### items -/
theorem Iv.add {k : Nat} {S : GS} (h : Iv k S) {m : Mg} {x : It} (hx : IsFresh m x) (hs : m.seq = ((k + 1 : Nat) : Int)) (h1 : m.topic.size ≤ 200) (h2 : m.from_.size ≤ 200) (h3 : m.props.length < 1000000) (hr : ¬ roomP S = 0) : Iv (k + 1) { S with I := S.I ++ [x] } := by
  obtain ⟨A, c, hm⟩ := hx.msg
  have e1 : x.msg.seq = m.seq := by rw [hm]
  have e2 : x.msg.topic = m.topic := by rw [hm]
  have e3 : x.msg.from_ = m.from_ := by rw [hm]
  have e4 : x.msg.props = m.props := by rw [hm]
  have g := h.mono (Nat.le_succ k)
  have hl : (S.I ++ [x]).length = S.I.length + 1 := by simp
  have hil := h.il
  have key : ∀ (i : Nat) (y : It), (S.I ++ [x])[i]? = some y → (i < S.I.length ∧ S.I[i]? = some y) ∨ (i = S.I.length ∧ y = x) := by
    intro i y hy
    by_cases hi : i < S.I.length
    · rw [List.getElem?_append_left hi] at hy; exact .inl ⟨hi, hy⟩
    · rw [List.getElem?_append_right (by omega)] at hy
      by_cases e : i = S.I.length
      · subst e
        rw [Nat.sub_self] at hy
        exact .inr ⟨rfl, (Option.some.inj hy).symm⟩
      · rw [List.getElem?_eq_none (by simp; omega)] at hy; cases hy
  refine ⟨by show (S.I ++ [x]).length ≤ k + 1; omega, g.ll, g.g0, g.g1, g.names, g.mem, fun i j a b ha hb hij => ?_, fun y hy => ?_, fun y hy => ?_, ?_, fun y hy => ?_⟩
  · rcases key i a ha with ⟨hi, ha'⟩ | ⟨hi, rfl⟩ <;> rcases key j b hb with ⟨hj, hb'⟩ | ⟨hj, rfl⟩
    · exact h.seqs i j a b ha' hb' hij
    · have := h.top a (List.mem_of_getElem? (l := S.I) ‹S.I[i]? = some a›)
      omega
    · omega
    · omega
  · rcases List.mem_append.1 hy with hy | hy
    · exact g.top y hy
    · rw [List.mem_singleton] at hy
      rw [hy]; omega
  · rcases List.mem_append.1 hy with hy | hy
    · exact g.szs y hy
    · rw [List.mem_singleton] at hy
      rw [hy]
      exact ⟨by rw [e2]; exact h1, by rw [e3]; exact h2, by rw [e4]; exact h3, by rw [hx.behind]; exact Nat.zero_le _⟩
  · show (((S.I ++ [x]).length : Nat) : Int) ≤ max S.most 0
    have := roomP_cases S
    omega
  · rcases List.mem_append.1 hy with hy | hy
    · exact h.conn y hy
    · rw [List.mem_singleton] at hy
      rw [hy]
      exact .inl hx.at_
theorem Snd.add {I : List It} (h : Snd I) {x : It} (hx : x.at_ = ByteArray.empty) : Snd (I ++ [x]) := by
  intro a ha b hb h1 h2 h3
  rcases List.mem_append.1 ha with ha | ha
  · rcases List.mem_append.1 hb with hb | hb
    · exact h a ha b hb h1 h2 h3
    · rw [List.mem_singleton] at hb
      rw [hb] at h3
      exact absurd hx h3
  · rw [List.mem_singleton] at ha
    rw [ha] at h2
    exact absurd hx h2
theorem done_sub (S : GS) (n : Int) (c : ByteArray) : (doneP S n c).I.Sublist S.I := by
  unfold doneP
  show (if 0 ≤ gidx S.I (isWith n c) then S.I.eraseIdx (gidx S.I (isWith n c)).toNat else S.I).Sublist S.I
  split
  · exact List.eraseIdx_sublist _ _
  · exact List.Sublist.refl _
theorem Iv.done {k : Nat} {S : GS} (h : Iv k S) (n : Int) (c : ByteArray) : Iv (k + 1) (doneP S n c) := (h.sub (done_sub S n c)).mono (Nat.le_succ k)
theorem Iv.exp {k : Nat} {S : GS} (h : Iv k S) (n : Int) : Iv (k + 1) (expP S n) := (h.sub List.filter_sublist).mono (Nat.le_succ k)
theorem Iv.doubt {k : Nat} {S : GS} (h : Iv k S) : Iv (k + 1) { S with I := S.I.map dbt } := by
  refine Iv.like (h.mono (Nat.le_succ k)) (I' := S.I.map dbt) (last := S.last) (L' := S.L) (gen' := S.gen) (List.length_map ..) (fun j y hy => ?_) (fun y hy => ?_) (by have := h.ll; omega) h.g0 (by have := h.g1; omega) h.names h.mem
  · rw [List.getElem?_map, Option.map_eq_some_iff] at hy
    obtain ⟨x, hx, rfl⟩ := hy
    exact ⟨x, hx, rfl, by have := (h.szs x (List.mem_of_getElem? hx)).behind; show x.behind.length ≤ _; omega⟩
  · obtain ⟨x, hx, rfl⟩ := List.mem_map.1 hy
    exact h.conn x hx
theorem Snd.doubt {I : List It} (h : Snd I) : Snd (I.map dbt) := snd_same h fun y hy => by
  obtain ⟨x, hx, rfl⟩ := List.mem_map.1 hy
  exact ⟨x, hx, rfl, .inl rfl⟩
theorem set_get {I : List It} {k j : Nat} {x y z : It} (hx : I[k]? = some x) (h : (I.set k y)[j]? = some z) : (j = k ∧ z = y) ∨ (j ≠ k ∧ I[j]? = some z) := by
  rw [List.getElem?_set] at h
  split at h
  · rename_i e
    subst e
    split at h
    · exact .inl ⟨rfl, (Option.some.inj h).symm⟩
    · cases h
  · rename_i e
    exact .inr ⟨fun e' => e e'.symm, h⟩
theorem Iv.back {k : Nat} {S : GS} (h : Iv k S) {c : ByteArray} {i : Nat} {x y : It} (hx : S.I[i]? = some x) (hb : IsBack c x y) : Iv (k + 1) { S with I := S.I.set i y } := by
  have hbl : y.behind.length ≤ k + 1 := by
    have := (h.szs x (List.mem_of_getElem? hx)).behind
    rw [hb.behind]
    split
    · omega
    · rw [List.length_append, List.length_singleton]; omega
  refine Iv.like (h.mono (Nat.le_succ k)) (I' := S.I.set i y) (last := S.last) (L' := S.L) (gen' := S.gen) (List.length_set ..) (fun j z hz => ?_) (fun z hz => ?_) (by have := h.ll; omega) h.g0 (by have := h.g1; omega) h.names h.mem
  · rcases set_get hx hz with ⟨rfl, rfl⟩ | ⟨-, hz⟩
    · exact ⟨x, hx, hb.msg, hbl⟩
    · exact self_like h j z hz
  · rcases List.mem_or_eq_of_mem_set hz with hz | rfl
    · exact h.conn z hz
    · exact .inl hb.at_
theorem Snd.back {I : List It} (h : Snd I) {c : ByteArray} {i : Nat} {x y : It} (hx : I[i]? = some x) (hb : IsBack c x y) : Snd (I.set i y) := snd_same h fun z hz => by
  rcases List.mem_or_eq_of_mem_set hz with hz | rfl
  · exact ⟨z, hz, rfl, .inl rfl⟩
  · exact ⟨x, List.mem_of_getElem? hx, hb.msg, .inr hb.at_⟩
theorem sentAt_some {S : GS} {n : Int} {c : ByteArray} {k : Nat} (h : sentAt S n c = some k) : ∃ x, S.I[k]? = some x ∧ gidx S.I (isSeq n) = (k : Int) ∧ x.at_ = ByteArray.empty ∧ (get S.L c).map Mem.online = some true ∧ (S.st = 3 → LaneP.may (pr S.I) (k : Int) c = true) := by
  unfold sentAt at h
  cases hx : S.I[(gidx S.I (isSeq n)).toNat]? with
  | none => rw [hx] at h; cases h
  | some x =>
    rw [hx] at h
    simp only at h
    split at h
    · rename_i hc
      injection h with h
      subst h
      have e : (((gidx S.I (isSeq n)).toNat : Nat) : Int) = gidx S.I (isSeq n) := by omega
      exact ⟨x, hx, e.symm, hc.2.1, hc.2.2.1, fun h3 => by rw [e]; exact hc.2.2.2 h3⟩
    · cases h
theorem sentP_none {S : GS} {n : Int} {c : ByteArray} (h : sentAt S n c = none) : sentP S n c = S := by unfold sentP; rw [h]
theorem sentP_some {S : GS} {n : Int} {c : ByteArray} {k : Nat} {x : It} (h : sentAt S n c = some k) (hx : S.I[k]? = some x) : sentP S n c = { S with I := S.I.set k (snt c x), last := c } := by unfold sentP; rw [h]; simp only [hx]
theorem get_on {L : List Mem} {c : ByteArray} (h : (get L c).map Mem.online = some true) : ∃ m ∈ L, m.client = c ∧ m.online = true := by
  rw [Option.map_eq_some_iff] at h
  obtain ⟨m, hm, ho⟩ := h
  unfold MemP.get at hm
  cases hf : find L c with
  | none => rw [hf] at hm; cases hm
  | some i =>
    obtain ⟨x, hx, hc, -⟩ := find_some hf
    rw [hf, Option.bind_some, hx] at hm
    injection hm with hm
    subst hm
    exact ⟨x, List.mem_of_getElem? hx, hc, ho⟩
theorem Iv.sent {k : Nat} {S : GS} (h : Iv k S) (n : Int) (c : ByteArray) : Iv k (sentP S n c) := by
  cases hs : sentAt S n c with
  | none => rw [sentP_none hs]; exact h
  | some i =>
    obtain ⟨x, hx, -, -, hon, -⟩ := sentAt_some hs
    rw [sentP_some hs hx]
    refine Iv.like h (I' := S.I.set i (snt c x)) (last := c) (L' := S.L) (gen' := S.gen) (List.length_set ..) (fun j z hz => ?_) (fun z hz => ?_) h.ll h.g0 h.g1 h.names h.mem
    · rcases set_get hx hz with ⟨rfl, rfl⟩ | ⟨-, hz⟩
      · exact ⟨x, hx, rfl, (h.szs x (List.mem_of_getElem? hx)).behind⟩
      · exact ⟨z, hz, rfl, (h.szs z (List.mem_of_getElem? hz)).behind⟩
    · rcases List.mem_or_eq_of_mem_set hz with hz | rfl
      · exact h.conn z hz
      · exact .inr (get_on hon)
theorem Snd.sent {S : GS} (h : Snd S.I) (h3 : S.st = 3) (n : Int) (c : ByteArray) : Snd (sentP S n c).I := by
  cases hs : sentAt S n c with
  | none => rw [sentP_none hs]; exact h
  | some i =>
    obtain ⟨x, hx, -, -, -, hmay⟩ := sentAt_some hs
    rw [sentP_some hs hx]
    have := LaneP.put_sound ((snd_iff S.I).2 h) (hmay h3)
    rw [← snd_iff]
    have e : LaneP.putAt (pr S.I) i c = pr (S.I.set i (snt c x)) := by
      unfold LaneP.putAt
      rw [pr_get, hx]
      simp only [Option.map_some]
      unfold pr
      rw [List.map_set]
      rfl
    rw [← e]
    exact this
theorem sentP_len (S : GS) (n : Int) (c : ByteArray) : (sentP S n c).I.length = S.I.length := by
  cases hs : sentAt S n c with
  | none => rw [sentP_none hs]
  | some i =>
    obtain ⟨x, hx, -, -, -, -⟩ := sentAt_some hs
    rw [sentP_some hs hx]
    exact List.length_set ..
theorem sentP_st (S : GS) (n : Int) (c : ByteArray) : (sentP S n c).st = S.st ∧ (sentP S n c).most = S.most ∧ (sentP S n c).key = S.key := by
  cases hs : sentAt S n c with
  | none => rw [sentP_none hs]; exact ⟨rfl, rfl, rfl⟩
  | some i =>
    obtain ⟨x, hx, -, -, -, -⟩ := sentAt_some hs
    rw [sentP_some hs hx]
    exact ⟨rfl, rfl, rfl⟩
/-! ### the next one -/
theorem next_some {st : Int} {I : List It} {L : List Mem} {last : ByteArray} {free : List ByteArray} {k : Nat} (h : nextN st I L last free = some k) : ∃ x, I[k]? = some x ∧ x.at_ = ByteArray.empty ∧ (whomP st I L last k x free).2 = true := by
  have := List.find?_some h
  unfold okAt at this
  cases hx : I[k]? with
  | none => rw [hx] at this; cases this
  | some x =>
    rw [hx] at this
    simp only [Bool.and_eq_true, decide_eq_true_eq] at this
    exact ⟨x, rfl, this.1, this.2⟩
theorem next_none {st : Int} {I : List It} {L : List Mem} {last : ByteArray} {free : List ByteArray} (h : nextN st I L last free = none) : ∀ (k : Nat) (x : It), I[k]? = some x → x.at_ = ByteArray.empty → (whomP st I L last k x free).2 = false := by
  intro k x hx ha
  have := List.find?_eq_none.1 h k (List.mem_range.2 (List.getElem?_eq_some_iff.1 hx).1)
  unfold okAt at this
  rw [hx] at this
  simpa [ha] using this
theorem seq_at {k : Nat} {S : GS} (h : Iv k S) {i : Nat} {x : It} (hx : S.I[i]? = some x) : gidx S.I (isSeq x.msg.seq) = i := by
  refine gidx_at hx (by unfold isSeq; simp) fun j y hj hy => ?_
  have := h.seqs j i y x hy hx hj
  unfold isSeq
  exact decide_eq_false (by omega)
theorem next_sent {k : Nat} {S : GS} (h : Iv k S) {i : Nat} {x : It} {free : List ByteArray} (hn : nextN S.st S.I S.L S.last free = some i) (hx : S.I[i]? = some x) :
    has free (whomP S.st S.I S.L S.last i x free).1 = true ∧ sentAt S x.msg.seq (whomP S.st S.I S.L S.last i x free).1 = some i := by
  obtain ⟨y, hy, ha, hw⟩ := next_some hn
  rw [hx] at hy
  injection hy with hy
  subst hy
  obtain ⟨h1, h2, h3⟩ := whom_ok h.conn hw
  refine ⟨h1, ?_⟩
  generalize (whomP S.st S.I S.L S.last i x free).1 = s at *
  have hg := seq_at h hx
  unfold sentAt
  rw [hg]
  simp only [Int.toNat_natCast, hx]
  rw [if_pos]
  refine ⟨by omega, ha, ?_, h3⟩
  obtain ⟨m, hm, hc, ho⟩ := here_iff.1 h2
  obtain ⟨j, hj, rfl⟩ := List.getElem_of_mem hm
  unfold MemP.get
  cases hf : find S.L s with
  | none => exact absurd hc (find_none hf _ hm)
  | some a =>
    obtain ⟨z, hz, hzc, -⟩ := find_some hf
    have := h.mem.dist a j z _ hz (List.getElem?_eq_getElem hj) (hzc.trans hc.symm)
    subst this
    rw [List.getElem?_eq_getElem hj] at hz
    rw [Option.bind_some, List.getElem?_eq_getElem hj]
    simp [ho]
/-! ### somebody is told -/
/-- Does a member wish for an item? -/
def wish (free : List ByteArray) (x : It) (all : Bool) (m : Mem) : Bool := m.online && has free m.client && (all || !has x.behind m.client)
def allP (L : List Mem) (x : It) : Bool := L.all fun m => !m.online || has x.behind m.client
theorem filter_nil {L : List Mem} {x : It} : (here L).filter (fun s => !has x.behind s) = [] ↔ allP L x = true := by
  rw [List.filter_eq_nil_iff]
  unfold allP
  rw [List.all_eq_true]
  constructor
  · intro h m hm
    cases ho : m.online with
    | false => rfl
    | true =>
      have := h m.client (here_iff.2 ⟨m, hm, rfl, ho⟩)
      simpa using this
  · intro h s hs
    obtain ⟨m, hm, rfl, ho⟩ := here_iff.1 hs
    have := h m hm
    rw [ho] at this
    simpa using this
theorem ready_goes {L : List Mem} {x : It} {free : List ByteArray} : readyP L x free ≠ [] ↔ L.any (wish free x (allP L x)) = true := by
  rw [List.any_eq_true]
  constructor
  · intro h
    obtain ⟨s, hs⟩ := List.exists_mem_of_ne_nil _ h
    obtain ⟨h1, h2⟩ := ready_iff.1 hs
    obtain ⟨m, hm, rfl, ho⟩ := here_iff.1 (may_here h1)
    refine ⟨m, hm, ?_⟩
    unfold wish
    rw [ho, h2]
    unfold mayP at h1
    by_cases hz : (here L).filter (fun s => !has x.behind s) = []
    · rw [filter_nil.1 hz]; rfl
    · rw [if_neg hz] at h1
      have := (List.mem_filter.1 h1).2
      rw [show (!has x.behind m.client) = true from this]
      simp
  · rintro ⟨m, hm, hw⟩
    unfold wish at hw
    simp only [Bool.and_eq_true] at hw
    obtain ⟨⟨h1, h2⟩, h3⟩ := hw
    have hh : m.client ∈ here L := here_iff.2 ⟨m, hm, rfl, h1⟩
    have : m.client ∈ readyP L x free := by
      refine ready_iff.2 ⟨?_, h2⟩
      unfold mayP
      by_cases hz : (here L).filter (fun s => !has x.behind s) = []
      · rw [if_pos hz]; exact hh
      · rw [if_neg hz]
        rw [List.mem_filter]
        refine ⟨hh, ?_⟩
        have hf : allP L x = false := by
          cases e : allP L x with
          | false => rfl
          | true => exact absurd (filter_nil.2 e) hz
        rw [hf] at h3
        simpa using h3
    intro e
    rw [e] at this
    cases this
/-- Is one told? -/
def goesP (I : List It) (L : List Mem) (free : List ByteArray) : Bool := I.any fun x => decide (x.at_ = ByteArray.empty) && L.any (wish free x (allP L x))
theorem next_goes {st : Int} (hst : st = 1 ∨ st = 4) (I : List It) (L : List Mem) (last : ByteArray) (free : List ByteArray) : (nextN st I L last free).isSome = goesP I L free := by
  cases hn : nextN st I L last free with
  | none =>
    symm
    unfold goesP
    rw [Option.isSome_none, List.any_eq_false]
    intro x hx
    obtain ⟨k, hk, rfl⟩ := List.getElem_of_mem hx
    intro h
    simp only [Bool.and_eq_true, decide_eq_true_eq] at h
    have h1 := next_none hn k _ (List.getElem?_eq_getElem hk) h.1
    have h2 := (whom_goes hst I L last k I[k] free).2 (ready_goes.2 h.2)
    rw [h1] at h2
    cases h2
  | some k =>
    obtain ⟨x, hx, ha, hw⟩ := next_some hn
    symm
    unfold goesP
    rw [Option.isSome_some, List.any_eq_true]
    exact ⟨x, List.mem_of_getElem? hx, by
      simp only [Bool.and_eq_true, decide_eq_true_eq]
      exact ⟨ha, ready_goes.1 ((whom_goes hst I L last k x free).1 hw)⟩⟩
end Go.Proofs.Ytclhgnlhejohgaa.GrpW
set_option linter.unusedVariables false
set_option linter.unusedSimpArgs false
namespace Go.Proofs.Ytclhgnlhejohgaa.GrpW
open Go.RowKit Go.Proofs.Ytclhgnlhejohgaa.Tc Go.Proofs.Ytclhgnlhejohgaa.GrpP
open Go.Proofs.Ytclhgnlhejohgaa.LaneW (SmallM BPost)
open Go.Proofs.Ytclhgnlhejohgaa.PickW (kS kI)

structure GA where
  kind : Int
  client : ByteArray
  msg : Tc.Mg
  n : Int
  fA : Option Addr
  fc : Nat
  free : List ByteArray
def GA.vals (a : GA) : List Value := [.int .i64 a.kind, .string a.client, .string a.msg.topic, .string a.msg.payload, .int .i64 a.msg.qos, .bool a.msg.retain, .slice a.msg.pA a.msg.props.length a.msg.pc, .string a.msg.from_, .int .i64 a.msg.until_, .int .i64 a.msg.seq, .string a.msg.group, .int .i64 a.n, .slice a.fA a.free.length a.fc]
def GA.val (a : GA) : Value := .agg #[.int .i64 a.kind, .string a.client, .string a.msg.topic, .string a.msg.payload, .int .i64 a.msg.qos, .bool a.msg.retain, .slice a.msg.pA a.msg.props.length a.msg.pc, .string a.msg.from_, .int .i64 a.msg.until_, .int .i64 a.msg.seq, .string a.msg.group, .int .i64 a.n, .slice a.fA a.free.length a.fc]
def GA.wf (a : GA) : Prop := a.client.size ≤ maxLen ∧ a.msg.wf ∧ (Lit.int .i64 a.kind).wf = true ∧ (Lit.int .i64 a.n).wf = true
set_option maxRecDepth 100000 in
noncomputable def kGA0 : Kd Try.prog 81 (Int × ByteArray × Tc.Mg × Int × (Option Addr × Nat × List ByteArray)) := kStruct Try.underlying81 rfl (fCons rfl aI (fCons rfl aS (fCons rfl kMsg (fCons rfl aI (fOne rfl kStrs))))) (by kernel_rfl)
noncomputable def kGA : Kd Try.prog 81 GA := kMap kGA0 (fun x => ⟨x.1, x.2.1, x.2.2.1, x.2.2.2.1, x.2.2.2.2.1, x.2.2.2.2.2.1, x.2.2.2.2.2.2⟩) (fun a => (a.kind, a.client, a.msg, a.n, (a.fA, a.fc, a.free))) (fun _ => rfl)
theorem kGA_rel (w : World) (a : GA) (cs : List Value) : kGA.rel w a cs ↔ cs = a.vals ∧ a.wf ∧ SliceIs kProp w a.msg.pA a.msg.props ∧ SliceIs aS w a.fA a.free := by
  constructor
  · rintro ⟨c0, cr, rfl, ⟨rfl, h0⟩, ⟨c1, cr, rfl, ⟨rfl, h1⟩, ⟨c2, cr, rfl, h2, ⟨c3, cr, rfl, ⟨rfl, h3⟩, ⟨rfl, h4⟩⟩⟩⟩⟩
    obtain ⟨rfl, hm, hp⟩ := (kMsg_rel _ _ _).1 h2
    exact ⟨rfl, ⟨h1, hm, h0, h3⟩, hp, h4⟩
  · rintro ⟨rfl, ⟨h1, hm, h0, h3⟩, hp, h4⟩
    exact ⟨[_], _, rfl, ⟨rfl, h0⟩, [_], _, rfl, ⟨rfl, h1⟩, a.msg.vals, _, rfl, (kMsg_rel _ _ _).2 ⟨rfl, hm, hp⟩, [_], _, rfl, ⟨rfl, h3⟩, rfl, h4⟩
theorem cellsGA : Try.prog.cellsOf 81 = 13 := by kernel_rfl
theorem ga_cells {w : World} {A : Option Addr} {l : List GA} (h : SliceIs kGA w A l) {k : Nat} {x : GA} (hk : l[k]? = some x) :
    ∃ b off, A = some ⟨b, off, none⟩ ∧ b < w.heap.size ∧ (∀ (j : Nat) (v : Value), x.vals[j]? = some v → w.cell? ⟨b, off + k * 13 + j, none⟩ = some v) ∧ x.wf ∧ SliceIs kProp w x.msg.pA x.msg.props ∧ SliceIs aS w x.fA x.free := by
  have hlt := (List.getElem?_eq_some_iff.1 hk).1
  obtain ⟨b, off, hA, hb, hc⟩ := h.at_ (by omega)
  obtain ⟨cs, hr, hcell⟩ := hc k x hk
  obtain ⟨rfl, hw, hp, hs⟩ := (kGA_rel _ _ _).1 hr
  rw [cellsGA] at hcell
  exact ⟨b, off, hA, hb, hcell, hw, hp, hs⟩
theorem acts_open {H : Type} {enc : TypeId × Value → H} {w : World} {base : Nat} {sp : Nat → Bool} {held : Bool} {A : Option Addr} {len cap : Nat} {d : DataW H} {ps : List MemPlace}
    (h : DataW.Trod enc Try.prog w base sp held 76 (.slice A len cap) d ps) : ∃ xs : List GA, xs.length = len ∧ SliceIs kGA w A xs := by
  obtain ⟨fuel, hf⟩ := h
  obtain ⟨A', c', xs, hcs, hx⟩ := slice_opens Try.underlying76 (by rw [cellsGA]; decide) kGA hf
  simp [Value.cells] at hcs
  obtain ⟨rfl, rfl, rfl⟩ := hcs
  exact ⟨xs, rfl, hx⟩
/-! ### Few -/
def SmallG (a : GA) : Prop := a.client.size ≤ 100 ∧ SmallM a.msg
def FewG (l : List GA) (mo : Nat) : Prop := l.length ≤ mo ∧ ∀ k (h : k < l.length), SmallG l[k]
set_option maxRecDepth 100000 in
set_option maxHeartbeats 4000000 in
theorem few_any (w : World) (A : Option Addr) (cap : Nat) (l : List GA) (mo : Nat) (hmo : mo ≤ 1000) (hS : SliceIs kGA w A l) :
    Calls Try.prog 58 #[.slice A l.length cap, .int .i64 mo] w fun e w' => BPost (FewG l mo) e ∧ Below w.heap.size w w' := by
  have hlen := hS.len
  unfold maxLen at hlen
  have HS := Lib.hid hS
  clear hS
  go_enter Try.func58, Try.ntmps58
  go_wp2
  go_loopw [5] (fun x wr => ∃ k : Nat, k ≤ l.length ∧ k ≤ mo ∧ (∀ j (h : j < l.length), j < k → SmallG l[j]) ∧ x = .int .i64 k ∧ Below w.heap.size w wr) (fun x _ => l.length - (intOf x).toNat)
  case atStart => exact ⟨0, by omega, by omega, by intro j _ h; omega, rfl, Below.refl _ _⟩
  case round =>
    obtain ⟨k, hk, hk70, hn, rfl, hB⟩ := hrel
    have HN := Lib.hid hn
    have HB := Lib.hid hB
    clear hn
    by_cases hlt : k < l.length
    · by_cases h70 : k < mo
      · obtain ⟨x, hx⟩ : ∃ x, x = l[k] := ⟨_, rfl⟩
        have hg : l[k]? = some x := by rw [hx]; exact List.getElem?_eq_getElem hlt
        obtain ⟨b, off, rfl, hb, hcx, hwf, hps, hfs⟩ := ga_cells (HS.out.below hB) hg
        have c0 : wr.cell? ⟨b, off + k * 13, none⟩ = some (.int .i64 x.kind) := hcx 0 _ rfl
        have c1 : wr.cell? ⟨b, off + k * 13 + 1, none⟩ = some (.string x.client) := hcx 1 _ rfl
        have c2 : wr.cell? ⟨b, off + k * 13 + 2, none⟩ = some (.string x.msg.topic) := hcx 2 _ rfl
        have c3 : wr.cell? ⟨b, off + k * 13 + 3, none⟩ = some (.string x.msg.payload) := hcx 3 _ rfl
        have c4 : wr.cell? ⟨b, off + k * 13 + 4, none⟩ = some (.int .i64 x.msg.qos) := hcx 4 _ rfl
        have c5 : wr.cell? ⟨b, off + k * 13 + 5, none⟩ = some (.bool x.msg.retain) := hcx 5 _ rfl
        have c6 : wr.cell? ⟨b, off + k * 13 + 6, none⟩ = some (.slice x.msg.pA x.msg.props.length x.msg.pc) := hcx 6 _ rfl
        have c7 : wr.cell? ⟨b, off + k * 13 + 7, none⟩ = some (.string x.msg.from_) := hcx 7 _ rfl
        have c8 : wr.cell? ⟨b, off + k * 13 + 8, none⟩ = some (.int .i64 x.msg.until_) := hcx 8 _ rfl
        have c9 : wr.cell? ⟨b, off + k * 13 + 9, none⟩ = some (.int .i64 x.msg.seq) := hcx 9 _ rfl
        have c10 : wr.cell? ⟨b, off + k * 13 + 10, none⟩ = some (.string x.msg.group) := hcx 10 _ rfl
        have c11 : wr.cell? ⟨b, off + k * 13 + 11, none⟩ = some (.int .i64 x.n) := hcx 11 _ rfl
        have c12 : wr.cell? ⟨b, off + k * 13 + 12, none⟩ = some (.slice x.fA x.free.length x.fc) := hcx 12 _ rfl
        have HSM := Lib.hid (LaneW.small_any x.msg wr hps)
        have HFS := Lib.hid hfs
        have HX := Lib.hid hx
        have c12' := Lib.hid c12
        unfold Mg.val at HSM
        clear hx hg hb hps hB hcx hwf hfs
        by_cases h1 : x.client.size ≤ 100
        · have h1' : ¬ 100 < x.client.size := by omega
          go_wp2_with fail
          refine HSM.out.mono ?_
          rintro e w2 ⟨⟨sb, rfl, hs⟩, hb⟩
          have HSB := Lib.hid hs
          have HB2 := Lib.hid (then_below HB.out hb)
          have e12 := (Same.of_below hb).cell c12'.out
          have HFC := Lib.hid (PickW.few_any w2 x.fA x.fc x.free (HFS.out.below hb))
          clear hs hb c0 c1 c2 c3 c4 c5 c6 c7 c8 c9 c10 c11 c12
          cases sb with
          | false =>
            go_wp2_with fail
            go_ret
            exact ⟨LaneW.BPost.no, HB2.out⟩
          | true =>
            go_wp2_with fail
            refine HFC.out.mono ?_
            rintro e w3 ⟨⟨fb, rfl, -⟩, rfl⟩
            cases fb with
            | false =>
              go_wp2_with fail
              go_ret
              exact ⟨LaneW.BPost.no, HB2.out⟩
            | true =>
              have HK := Lib.hid (show SmallG x from ⟨h1, HSB.out (by first | rfl | trivial)⟩)
              go_wp2_with fail
              go_roundw
              case rel =>
                refine ⟨k + 1, by omega, by omega, ?_, by go_num, HB2.out⟩
                intro j hj hjk
                by_cases e : j = k
                · subst e; rw [← HX.out]; exact HK.out
                · exact HN.out j hj (by omega)
              case measure => simp [intOf]; omega
        · have h1' : 100 < x.client.size := by omega
          go_wp2_with fail
          go_ret
          exact ⟨LaneW.BPost.no, HB.out⟩
      · obtain rfl : k = mo := by omega
        have h71 : ¬ l.length ≤ k := by omega
        clear hB
        go_wp2
        go_ret
        exact ⟨LaneW.BPost.no, HB.out⟩
    · obtain rfl : k = l.length := by omega
      clear hB
      go_wp2
      go_ret
      exact ⟨LaneW.BPost.of (b := true) (fun _ => ⟨hk70, fun j hj => HN.out j hj hj⟩), HB.out⟩
/-! ### do -/
/-- An act that can be read. -/
structure Ra (w : World) (a : GA) : Prop where
  wf : a.wf
  props : SliceIs kProp w a.msg.pA a.msg.props
  free : SliceIs aS w a.fA a.free
  client : a.client.size ≤ 100
  topic : a.msg.topic.size ≤ 200
  from_ : a.msg.from_.size ≤ 200
  few : a.msg.props.length < 1000000
theorem Ra.below {w w' : World} {a : GA} (h : Ra w a) (hb : Below w.heap.size w w') : Ra w' a := ⟨h.wf, h.props.below hb, h.free.below hb, h.client, h.topic, h.from_, h.few⟩
def Step (k : Nat) (S S' : GS) : Prop := Iv (k + 1) S' ∧ S'.st = S.st ∧ S'.most = S.most ∧ S'.key = S.key ∧ (S.st = 3 → Snd S.I → Snd S'.I)
def DPost (B : Nat) (w : World) (g ms k : Nat) (S : GS) (kind : Int) (e : Ending) (w' : World) : Prop :=
  ∃ ans mv' iv' S', e = .returned (.bool ans) ∧ Gp B w' g ms mv' iv' S' ∧ Gf B w w' ∧ Step k S S' ∧ (kind ≠ 5 → kind ≠ 7 → S'.I.length = S.I.length) ∧ (kind = 6 ∨ kind = 9 → S' = S ∧ Below w.heap.size w w')
section
variable {B : Nat} {w : World} {g ms : Nat} {mv iv : Value} {S : GS}
theorem leave_st (S : GS) (c : ByteArray) : (leaveP S c).st = S.st ∧ (leaveP S c).most = S.most ∧ (leaveP S c).key = S.key ∧ (leaveP S c).I.length = S.I.length := by
  unfold leaveP
  split
  · exact ⟨rfl, rfl, rfl, List.length_map ..⟩
  · exact ⟨rfl, rfl, rfl, rfl⟩
theorem online_st (S : GS) (c : ByteArray) (is : Bool) : (onlineP S c is).st = S.st ∧ (onlineP S c is).most = S.most ∧ (onlineP S c is).key = S.key ∧ (onlineP S c is).I.length = S.I.length := by
  unfold onlineP
  split
  · exact ⟨rfl, rfl, rfl, List.length_map ..⟩
  · exact ⟨rfl, rfl, rfl, rfl⟩
set_option maxRecDepth 100000 in
set_option maxHeartbeats 4000000 in
theorem do_1 (h : Gp B w g ms mv iv S) (k : Nat) (hk : k ≤ 1000) (hv : Iv k S) (hm0 : -9223372036854775808 ≤ S.most) (hm1 : S.most ≤ 9223372036854775807) (a : GA) (ha : Ra w a) (hs : a.msg.seq = ((k + 1 : Nat) : Int)) (hq : a.kind = 1) :
    Calls Try.prog 69 #[.pointer (some ⟨g, 0, none⟩), a.val] w (DPost B w g ms k S a.kind) := by
  obtain ⟨W, hW⟩ : ∃ W, W = w.alloc (.cells #[.int .i64 a.kind, .string a.client, .string a.msg.topic, .string a.msg.payload, .int .i64 a.msg.qos, .bool a.msg.retain, .slice a.msg.pA a.msg.props.length a.msg.pc, .string a.msg.from_, .int .i64 a.msg.until_, .int .i64 a.msg.seq, .string a.msg.group, .int .i64 a.n, .slice a.fA a.free.length a.fc] 81) := ⟨_, rfl⟩
  have hb0 : Below w.heap.size w W := by rw [hW]; exact alloc_below _ _
  have hz0 : W.heap[w.heap.size]? = some (.cells #[.int .i64 a.kind, .string a.client, .string a.msg.topic, .string a.msg.payload, .int .i64 a.msg.qos, .bool a.msg.retain, .slice a.msg.pA a.msg.props.length a.msg.pc, .string a.msg.from_, .int .i64 a.msg.until_, .int .i64 a.msg.seq, .string a.msg.group, .int .i64 a.n, .slice a.fA a.free.length a.fc] 81 (0, 0)) := by rw [hW]; exact heap_alloc_new w _
  have HG := Lib.hid (h.below hb0)
  have HA := Lib.hid (ha.below hb0)
  have hil : S.I.length < 1000000 := by have := hv.il; omega
  have hll : S.L.length < 1000000 := by have := hv.ll; omega
  have hg0 := hv.g0
  have hg1 : S.gen < 1000000 := by have := hv.g1; omega
  have hcl : a.client.size ≤ maxLen := by have := ha.client; unfold maxLen; omega
  have hself : Step k S S := ⟨hv.mono (Nat.le_succ k), rfl, rfl, rfl, fun _ h => h⟩
  generalize hP : DPost B w g ms k S a.kind = PP
  have HPP := Lib.hid (show ∀ ans e w' S', MPost B W g ms ans S' e w' → Step k S S' → (a.kind ≠ 5 → a.kind ≠ 7 → S'.I.length = S.I.length) → (a.kind = 6 ∨ a.kind = 9 → S' = S ∧ Below w.heap.size w w') → PP (.returned (.bool ans)) w' from fun ans e w' S' h1 h2 h3 h4 => by
    obtain ⟨mv', iv', he, h5, h6⟩ := h1
    rw [← hP]
    exact ⟨ans, mv', iv', S', rfl, h5, (Gf.of_below hb0).trans h6, h2, h3, h4⟩)
  have a0 : W.cell? ⟨w.heap.size, 0, none⟩ = some (.int .i64 a.kind) := cell_of hz0 rfl
  have a1 : W.cell? ⟨w.heap.size, 1, none⟩ = some (.string a.client) := cell_of hz0 rfl
  have a2 : W.cell? ⟨w.heap.size, 2, none⟩ = some (.string a.msg.topic) := cell_of hz0 rfl
  have a3 : W.cell? ⟨w.heap.size, 3, none⟩ = some (.string a.msg.payload) := cell_of hz0 rfl
  have a4 : W.cell? ⟨w.heap.size, 4, none⟩ = some (.int .i64 a.msg.qos) := cell_of hz0 rfl
  have a5 : W.cell? ⟨w.heap.size, 5, none⟩ = some (.bool a.msg.retain) := cell_of hz0 rfl
  have a6 : W.cell? ⟨w.heap.size, 6, none⟩ = some (.slice a.msg.pA a.msg.props.length a.msg.pc) := cell_of hz0 rfl
  have a7 : W.cell? ⟨w.heap.size, 7, none⟩ = some (.string a.msg.from_) := cell_of hz0 rfl
  have a8 : W.cell? ⟨w.heap.size, 8, none⟩ = some (.int .i64 a.msg.until_) := cell_of hz0 rfl
  have a9 : W.cell? ⟨w.heap.size, 9, none⟩ = some (.int .i64 a.msg.seq) := cell_of hz0 rfl
  have a10 : W.cell? ⟨w.heap.size, 10, none⟩ = some (.string a.msg.group) := cell_of hz0 rfl
  have a11 : W.cell? ⟨w.heap.size, 11, none⟩ = some (.int .i64 a.n) := cell_of hz0 rfl
  have a12 : W.cell? ⟨w.heap.size, 12, none⟩ = some (.slice a.fA a.free.length a.fc) := cell_of hz0 rfl
  have HWW := Lib.hid hW
  have HB0 := Lib.hid hb0
  have HV := Lib.hid hv
  unfold GA.val
  have HJ := Lib.hid (join_any HG.out hll hg0 hg1 a.client hcl a.n ha.wf.2.2.2)
  have HST := Lib.hid (hv.join a.client ha.client a.n)
  rw [hq] at a0 HPP HWW ⊢
  clear hq
  clear hP h hb0 hz0 hW ha hv hs
  go_enter Try.func69, Try.ntmps69
  go_upto_region 1 with (fail)
  rw [← HWW.out]
  clear HWW
  go_wp2_with fail
  refine HJ.out.mono ?_
  intro e w' hp
  have HE := Lib.hid (HPP.out _ _ _ _ hp ⟨HST.out, rfl, rfl, rfl, fun _ h => h⟩ (fun _ _ => rfl) (fun h => by omega))
  obtain ⟨mv', iv', rfl, -, -⟩ := hp
  clear hself
  go_wp2_with fail
  exact HE.out
set_option maxRecDepth 100000 in
set_option maxHeartbeats 4000000 in
theorem do_2 (h : Gp B w g ms mv iv S) (k : Nat) (hk : k ≤ 1000) (hv : Iv k S) (hm0 : -9223372036854775808 ≤ S.most) (hm1 : S.most ≤ 9223372036854775807) (a : GA) (ha : Ra w a) (hs : a.msg.seq = ((k + 1 : Nat) : Int)) (hq : a.kind = 2) :
    Calls Try.prog 69 #[.pointer (some ⟨g, 0, none⟩), a.val] w (DPost B w g ms k S a.kind) := by
  obtain ⟨W, hW⟩ : ∃ W, W = w.alloc (.cells #[.int .i64 a.kind, .string a.client, .string a.msg.topic, .string a.msg.payload, .int .i64 a.msg.qos, .bool a.msg.retain, .slice a.msg.pA a.msg.props.length a.msg.pc, .string a.msg.from_, .int .i64 a.msg.until_, .int .i64 a.msg.seq, .string a.msg.group, .int .i64 a.n, .slice a.fA a.free.length a.fc] 81) := ⟨_, rfl⟩
  have hb0 : Below w.heap.size w W := by rw [hW]; exact alloc_below _ _
  have hz0 : W.heap[w.heap.size]? = some (.cells #[.int .i64 a.kind, .string a.client, .string a.msg.topic, .string a.msg.payload, .int .i64 a.msg.qos, .bool a.msg.retain, .slice a.msg.pA a.msg.props.length a.msg.pc, .string a.msg.from_, .int .i64 a.msg.until_, .int .i64 a.msg.seq, .string a.msg.group, .int .i64 a.n, .slice a.fA a.free.length a.fc] 81 (0, 0)) := by rw [hW]; exact heap_alloc_new w _
  have HG := Lib.hid (h.below hb0)
  have HA := Lib.hid (ha.below hb0)
  have hil : S.I.length < 1000000 := by have := hv.il; omega
  have hll : S.L.length < 1000000 := by have := hv.ll; omega
  have hg0 := hv.g0
  have hg1 : S.gen < 1000000 := by have := hv.g1; omega
  have hcl : a.client.size ≤ maxLen := by have := ha.client; unfold maxLen; omega
  have hself : Step k S S := ⟨hv.mono (Nat.le_succ k), rfl, rfl, rfl, fun _ h => h⟩
  generalize hP : DPost B w g ms k S a.kind = PP
  have HPP := Lib.hid (show ∀ ans e w' S', MPost B W g ms ans S' e w' → Step k S S' → (a.kind ≠ 5 → a.kind ≠ 7 → S'.I.length = S.I.length) → (a.kind = 6 ∨ a.kind = 9 → S' = S ∧ Below w.heap.size w w') → PP (.returned (.bool ans)) w' from fun ans e w' S' h1 h2 h3 h4 => by
    obtain ⟨mv', iv', he, h5, h6⟩ := h1
    rw [← hP]
    exact ⟨ans, mv', iv', S', rfl, h5, (Gf.of_below hb0).trans h6, h2, h3, h4⟩)
  have a0 : W.cell? ⟨w.heap.size, 0, none⟩ = some (.int .i64 a.kind) := cell_of hz0 rfl
  have a1 : W.cell? ⟨w.heap.size, 1, none⟩ = some (.string a.client) := cell_of hz0 rfl
  have a2 : W.cell? ⟨w.heap.size, 2, none⟩ = some (.string a.msg.topic) := cell_of hz0 rfl
  have a3 : W.cell? ⟨w.heap.size, 3, none⟩ = some (.string a.msg.payload) := cell_of hz0 rfl
  have a4 : W.cell? ⟨w.heap.size, 4, none⟩ = some (.int .i64 a.msg.qos) := cell_of hz0 rfl
  have a5 : W.cell? ⟨w.heap.size, 5, none⟩ = some (.bool a.msg.retain) := cell_of hz0 rfl
  have a6 : W.cell? ⟨w.heap.size, 6, none⟩ = some (.slice a.msg.pA a.msg.props.length a.msg.pc) := cell_of hz0 rfl
  have a7 : W.cell? ⟨w.heap.size, 7, none⟩ = some (.string a.msg.from_) := cell_of hz0 rfl
  have a8 : W.cell? ⟨w.heap.size, 8, none⟩ = some (.int .i64 a.msg.until_) := cell_of hz0 rfl
  have a9 : W.cell? ⟨w.heap.size, 9, none⟩ = some (.int .i64 a.msg.seq) := cell_of hz0 rfl
  have a10 : W.cell? ⟨w.heap.size, 10, none⟩ = some (.string a.msg.group) := cell_of hz0 rfl
  have a11 : W.cell? ⟨w.heap.size, 11, none⟩ = some (.int .i64 a.n) := cell_of hz0 rfl
  have a12 : W.cell? ⟨w.heap.size, 12, none⟩ = some (.slice a.fA a.free.length a.fc) := cell_of hz0 rfl
  have HWW := Lib.hid hW
  have HB0 := Lib.hid hb0
  have HV := Lib.hid hv
  unfold GA.val
  have HJ := Lib.hid (leave_any HG.out hil hll hg0 hg1 a.client)
  have HST := Lib.hid (hv.leave a.client ha.client)
  rw [hq] at a0 HPP HWW ⊢
  clear hq
  clear hP h hb0 hz0 hW ha hv hs
  go_enter Try.func69, Try.ntmps69
  go_upto_region 1 with (fail)
  rw [← HWW.out]
  clear HWW
  go_wp2_with fail
  refine HJ.out.mono ?_
  intro e w' hp
  have HE := Lib.hid (HPP.out _ _ _ _ hp ⟨HST.out, (leave_st S _).1, (leave_st S _).2.1, (leave_st S _).2.2.1, fun _ h => h.leave _⟩ (fun _ _ => (leave_st S _).2.2.2) (fun h => by omega))
  obtain ⟨mv', iv', rfl, -, -⟩ := hp
  clear hself
  go_wp2_with fail
  exact HE.out
set_option maxRecDepth 100000 in
set_option maxHeartbeats 4000000 in
theorem do_3 (h : Gp B w g ms mv iv S) (k : Nat) (hk : k ≤ 1000) (hv : Iv k S) (hm0 : -9223372036854775808 ≤ S.most) (hm1 : S.most ≤ 9223372036854775807) (a : GA) (ha : Ra w a) (hs : a.msg.seq = ((k + 1 : Nat) : Int)) (hq : a.kind = 3) :
    Calls Try.prog 69 #[.pointer (some ⟨g, 0, none⟩), a.val] w (DPost B w g ms k S a.kind) := by
  obtain ⟨W, hW⟩ : ∃ W, W = w.alloc (.cells #[.int .i64 a.kind, .string a.client, .string a.msg.topic, .string a.msg.payload, .int .i64 a.msg.qos, .bool a.msg.retain, .slice a.msg.pA a.msg.props.length a.msg.pc, .string a.msg.from_, .int .i64 a.msg.until_, .int .i64 a.msg.seq, .string a.msg.group, .int .i64 a.n, .slice a.fA a.free.length a.fc] 81) := ⟨_, rfl⟩
  have hb0 : Below w.heap.size w W := by rw [hW]; exact alloc_below _ _
  have hz0 : W.heap[w.heap.size]? = some (.cells #[.int .i64 a.kind, .string a.client, .string a.msg.topic, .string a.msg.payload, .int .i64 a.msg.qos, .bool a.msg.retain, .slice a.msg.pA a.msg.props.length a.msg.pc, .string a.msg.from_, .int .i64 a.msg.until_, .int .i64 a.msg.seq, .string a.msg.group, .int .i64 a.n, .slice a.fA a.free.length a.fc] 81 (0, 0)) := by rw [hW]; exact heap_alloc_new w _
  have HG := Lib.hid (h.below hb0)
  have HA := Lib.hid (ha.below hb0)
  have hil : S.I.length < 1000000 := by have := hv.il; omega
  have hll : S.L.length < 1000000 := by have := hv.ll; omega
  have hg0 := hv.g0
  have hg1 : S.gen < 1000000 := by have := hv.g1; omega
  have hcl : a.client.size ≤ maxLen := by have := ha.client; unfold maxLen; omega
  have hself : Step k S S := ⟨hv.mono (Nat.le_succ k), rfl, rfl, rfl, fun _ h => h⟩
  generalize hP : DPost B w g ms k S a.kind = PP
  have HPP := Lib.hid (show ∀ ans e w' S', MPost B W g ms ans S' e w' → Step k S S' → (a.kind ≠ 5 → a.kind ≠ 7 → S'.I.length = S.I.length) → (a.kind = 6 ∨ a.kind = 9 → S' = S ∧ Below w.heap.size w w') → PP (.returned (.bool ans)) w' from fun ans e w' S' h1 h2 h3 h4 => by
    obtain ⟨mv', iv', he, h5, h6⟩ := h1
    rw [← hP]
    exact ⟨ans, mv', iv', S', rfl, h5, (Gf.of_below hb0).trans h6, h2, h3, h4⟩)
  have a0 : W.cell? ⟨w.heap.size, 0, none⟩ = some (.int .i64 a.kind) := cell_of hz0 rfl
  have a1 : W.cell? ⟨w.heap.size, 1, none⟩ = some (.string a.client) := cell_of hz0 rfl
  have a2 : W.cell? ⟨w.heap.size, 2, none⟩ = some (.string a.msg.topic) := cell_of hz0 rfl
  have a3 : W.cell? ⟨w.heap.size, 3, none⟩ = some (.string a.msg.payload) := cell_of hz0 rfl
  have a4 : W.cell? ⟨w.heap.size, 4, none⟩ = some (.int .i64 a.msg.qos) := cell_of hz0 rfl
  have a5 : W.cell? ⟨w.heap.size, 5, none⟩ = some (.bool a.msg.retain) := cell_of hz0 rfl
  have a6 : W.cell? ⟨w.heap.size, 6, none⟩ = some (.slice a.msg.pA a.msg.props.length a.msg.pc) := cell_of hz0 rfl
  have a7 : W.cell? ⟨w.heap.size, 7, none⟩ = some (.string a.msg.from_) := cell_of hz0 rfl
  have a8 : W.cell? ⟨w.heap.size, 8, none⟩ = some (.int .i64 a.msg.until_) := cell_of hz0 rfl
  have a9 : W.cell? ⟨w.heap.size, 9, none⟩ = some (.int .i64 a.msg.seq) := cell_of hz0 rfl
  have a10 : W.cell? ⟨w.heap.size, 10, none⟩ = some (.string a.msg.group) := cell_of hz0 rfl
  have a11 : W.cell? ⟨w.heap.size, 11, none⟩ = some (.int .i64 a.n) := cell_of hz0 rfl
  have a12 : W.cell? ⟨w.heap.size, 12, none⟩ = some (.slice a.fA a.free.length a.fc) := cell_of hz0 rfl
  have HWW := Lib.hid hW
  have HB0 := Lib.hid hb0
  have HV := Lib.hid hv
  unfold GA.val
  have HJ := Lib.hid (online_any HG.out hil hll hg0 hg1 a.client true)
  have HST := Lib.hid (hv.online a.client ha.client true)
  rw [hq] at a0 HPP HWW ⊢
  clear hq
  clear hP h hb0 hz0 hW ha hv hs
  go_enter Try.func69, Try.ntmps69
  go_upto_region 1 with (fail)
  rw [← HWW.out]
  clear HWW
  go_wp2_with fail
  refine HJ.out.mono ?_
  intro e w' hp
  have HE := Lib.hid (HPP.out _ _ _ _ hp ⟨HST.out, (online_st S _ _).1, (online_st S _ _).2.1, (online_st S _ _).2.2.1, fun _ h => h.online _ _⟩ (fun _ _ => (online_st S _ _).2.2.2) (fun h => by omega))
  obtain ⟨mv', iv', rfl, -, -⟩ := hp
  clear hself
  go_wp2_with fail
  exact HE.out
set_option maxRecDepth 100000 in
set_option maxHeartbeats 4000000 in
theorem do_4 (h : Gp B w g ms mv iv S) (k : Nat) (hk : k ≤ 1000) (hv : Iv k S) (hm0 : -9223372036854775808 ≤ S.most) (hm1 : S.most ≤ 9223372036854775807) (a : GA) (ha : Ra w a) (hs : a.msg.seq = ((k + 1 : Nat) : Int)) (hq : a.kind = 4) :
    Calls Try.prog 69 #[.pointer (some ⟨g, 0, none⟩), a.val] w (DPost B w g ms k S a.kind) := by
  obtain ⟨W, hW⟩ : ∃ W, W = w.alloc (.cells #[.int .i64 a.kind, .string a.client, .string a.msg.topic, .string a.msg.payload, .int .i64 a.msg.qos, .bool a.msg.retain, .slice a.msg.pA a.msg.props.length a.msg.pc, .string a.msg.from_, .int .i64 a.msg.until_, .int .i64 a.msg.seq, .string a.msg.group, .int .i64 a.n, .slice a.fA a.free.length a.fc] 81) := ⟨_, rfl⟩
  have hb0 : Below w.heap.size w W := by rw [hW]; exact alloc_below _ _
  have hz0 : W.heap[w.heap.size]? = some (.cells #[.int .i64 a.kind, .string a.client, .string a.msg.topic, .string a.msg.payload, .int .i64 a.msg.qos, .bool a.msg.retain, .slice a.msg.pA a.msg.props.length a.msg.pc, .string a.msg.from_, .int .i64 a.msg.until_, .int .i64 a.msg.seq, .string a.msg.group, .int .i64 a.n, .slice a.fA a.free.length a.fc] 81 (0, 0)) := by rw [hW]; exact heap_alloc_new w _
  have HG := Lib.hid (h.below hb0)
  have HA := Lib.hid (ha.below hb0)
  have hil : S.I.length < 1000000 := by have := hv.il; omega
  have hll : S.L.length < 1000000 := by have := hv.ll; omega
  have hg0 := hv.g0
  have hg1 : S.gen < 1000000 := by have := hv.g1; omega
  have hcl : a.client.size ≤ maxLen := by have := ha.client; unfold maxLen; omega
  have hself : Step k S S := ⟨hv.mono (Nat.le_succ k), rfl, rfl, rfl, fun _ h => h⟩
  generalize hP : DPost B w g ms k S a.kind = PP
  have HPP := Lib.hid (show ∀ ans e w' S', MPost B W g ms ans S' e w' → Step k S S' → (a.kind ≠ 5 → a.kind ≠ 7 → S'.I.length = S.I.length) → (a.kind = 6 ∨ a.kind = 9 → S' = S ∧ Below w.heap.size w w') → PP (.returned (.bool ans)) w' from fun ans e w' S' h1 h2 h3 h4 => by
    obtain ⟨mv', iv', he, h5, h6⟩ := h1
    rw [← hP]
    exact ⟨ans, mv', iv', S', rfl, h5, (Gf.of_below hb0).trans h6, h2, h3, h4⟩)
  have a0 : W.cell? ⟨w.heap.size, 0, none⟩ = some (.int .i64 a.kind) := cell_of hz0 rfl
  have a1 : W.cell? ⟨w.heap.size, 1, none⟩ = some (.string a.client) := cell_of hz0 rfl
  have a2 : W.cell? ⟨w.heap.size, 2, none⟩ = some (.string a.msg.topic) := cell_of hz0 rfl
  have a3 : W.cell? ⟨w.heap.size, 3, none⟩ = some (.string a.msg.payload) := cell_of hz0 rfl
  have a4 : W.cell? ⟨w.heap.size, 4, none⟩ = some (.int .i64 a.msg.qos) := cell_of hz0 rfl
  have a5 : W.cell? ⟨w.heap.size, 5, none⟩ = some (.bool a.msg.retain) := cell_of hz0 rfl
  have a6 : W.cell? ⟨w.heap.size, 6, none⟩ = some (.slice a.msg.pA a.msg.props.length a.msg.pc) := cell_of hz0 rfl
  have a7 : W.cell? ⟨w.heap.size, 7, none⟩ = some (.string a.msg.from_) := cell_of hz0 rfl
  have a8 : W.cell? ⟨w.heap.size, 8, none⟩ = some (.int .i64 a.msg.until_) := cell_of hz0 rfl
  have a9 : W.cell? ⟨w.heap.size, 9, none⟩ = some (.int .i64 a.msg.seq) := cell_of hz0 rfl
  have a10 : W.cell? ⟨w.heap.size, 10, none⟩ = some (.string a.msg.group) := cell_of hz0 rfl
  have a11 : W.cell? ⟨w.heap.size, 11, none⟩ = some (.int .i64 a.n) := cell_of hz0 rfl
  have a12 : W.cell? ⟨w.heap.size, 12, none⟩ = some (.slice a.fA a.free.length a.fc) := cell_of hz0 rfl
  have HWW := Lib.hid hW
  have HB0 := Lib.hid hb0
  have HV := Lib.hid hv
  unfold GA.val
  have HJ := Lib.hid (online_any HG.out hil hll hg0 hg1 a.client false)
  have HST := Lib.hid (hv.online a.client ha.client false)
  rw [hq] at a0 HPP HWW ⊢
  clear hq
  clear hP h hb0 hz0 hW ha hv hs
  go_enter Try.func69, Try.ntmps69
  go_upto_region 1 with (fail)
  rw [← HWW.out]
  clear HWW
  go_wp2_with fail
  refine HJ.out.mono ?_
  intro e w' hp
  have HE := Lib.hid (HPP.out _ _ _ _ hp ⟨HST.out, (online_st S _ _).1, (online_st S _ _).2.1, (online_st S _ _).2.2.1, fun _ h => h.online _ _⟩ (fun _ _ => (online_st S _ _).2.2.2) (fun h => by omega))
  obtain ⟨mv', iv', rfl, -, -⟩ := hp
  clear hself
  go_wp2_with fail
  exact HE.out
set_option maxRecDepth 100000 in
set_option maxHeartbeats 4000000 in
theorem do_5no (h : Gp B w g ms mv iv S) (k : Nat) (hk : k ≤ 1000) (hv : Iv k S) (hm0 : -9223372036854775808 ≤ S.most) (hm1 : S.most ≤ 9223372036854775807) (a : GA) (ha : Ra w a) (hs : a.msg.seq = ((k + 1 : Nat) : Int)) (hq : a.kind = 5) (hr : roomP S = 0) :
    Calls Try.prog 69 #[.pointer (some ⟨g, 0, none⟩), a.val] w (DPost B w g ms k S a.kind) := by
  obtain ⟨W, hW⟩ : ∃ W, W = w.alloc (.cells #[.int .i64 a.kind, .string a.client, .string a.msg.topic, .string a.msg.payload, .int .i64 a.msg.qos, .bool a.msg.retain, .slice a.msg.pA a.msg.props.length a.msg.pc, .string a.msg.from_, .int .i64 a.msg.until_, .int .i64 a.msg.seq, .string a.msg.group, .int .i64 a.n, .slice a.fA a.free.length a.fc] 81) := ⟨_, rfl⟩
  have hb0 : Below w.heap.size w W := by rw [hW]; exact alloc_below _ _
  have hz0 : W.heap[w.heap.size]? = some (.cells #[.int .i64 a.kind, .string a.client, .string a.msg.topic, .string a.msg.payload, .int .i64 a.msg.qos, .bool a.msg.retain, .slice a.msg.pA a.msg.props.length a.msg.pc, .string a.msg.from_, .int .i64 a.msg.until_, .int .i64 a.msg.seq, .string a.msg.group, .int .i64 a.n, .slice a.fA a.free.length a.fc] 81 (0, 0)) := by rw [hW]; exact heap_alloc_new w _
  have HG := Lib.hid (h.below hb0)
  have HA := Lib.hid (ha.below hb0)
  have hil : S.I.length < 1000000 := by have := hv.il; omega
  have hll : S.L.length < 1000000 := by have := hv.ll; omega
  have hg0 := hv.g0
  have hg1 : S.gen < 1000000 := by have := hv.g1; omega
  have hcl : a.client.size ≤ maxLen := by have := ha.client; unfold maxLen; omega
  have hself : Step k S S := ⟨hv.mono (Nat.le_succ k), rfl, rfl, rfl, fun _ h => h⟩
  generalize hP : DPost B w g ms k S a.kind = PP
  have HPP := Lib.hid (show ∀ ans e w' S', MPost B W g ms ans S' e w' → Step k S S' → (a.kind ≠ 5 → a.kind ≠ 7 → S'.I.length = S.I.length) → (a.kind = 6 ∨ a.kind = 9 → S' = S ∧ Below w.heap.size w w') → PP (.returned (.bool ans)) w' from fun ans e w' S' h1 h2 h3 h4 => by
    obtain ⟨mv', iv', he, h5, h6⟩ := h1
    rw [← hP]
    exact ⟨ans, mv', iv', S', rfl, h5, (Gf.of_below hb0).trans h6, h2, h3, h4⟩)
  have a0 : W.cell? ⟨w.heap.size, 0, none⟩ = some (.int .i64 a.kind) := cell_of hz0 rfl
  have a1 : W.cell? ⟨w.heap.size, 1, none⟩ = some (.string a.client) := cell_of hz0 rfl
  have a2 : W.cell? ⟨w.heap.size, 2, none⟩ = some (.string a.msg.topic) := cell_of hz0 rfl
  have a3 : W.cell? ⟨w.heap.size, 3, none⟩ = some (.string a.msg.payload) := cell_of hz0 rfl
  have a4 : W.cell? ⟨w.heap.size, 4, none⟩ = some (.int .i64 a.msg.qos) := cell_of hz0 rfl
  have a5 : W.cell? ⟨w.heap.size, 5, none⟩ = some (.bool a.msg.retain) := cell_of hz0 rfl
  have a6 : W.cell? ⟨w.heap.size, 6, none⟩ = some (.slice a.msg.pA a.msg.props.length a.msg.pc) := cell_of hz0 rfl
  have a7 : W.cell? ⟨w.heap.size, 7, none⟩ = some (.string a.msg.from_) := cell_of hz0 rfl
  have a8 : W.cell? ⟨w.heap.size, 8, none⟩ = some (.int .i64 a.msg.until_) := cell_of hz0 rfl
  have a9 : W.cell? ⟨w.heap.size, 9, none⟩ = some (.int .i64 a.msg.seq) := cell_of hz0 rfl
  have a10 : W.cell? ⟨w.heap.size, 10, none⟩ = some (.string a.msg.group) := cell_of hz0 rfl
  have a11 : W.cell? ⟨w.heap.size, 11, none⟩ = some (.int .i64 a.n) := cell_of hz0 rfl
  have a12 : W.cell? ⟨w.heap.size, 12, none⟩ = some (.slice a.fA a.free.length a.fc) := cell_of hz0 rfl
  have HWW := Lib.hid hW
  have HB0 := Lib.hid hb0
  have HV := Lib.hid hv
  unfold GA.val
  have HJ := Lib.hid (add_no HG.out hil hm0 hm1 hv.room a.msg hr)
  unfold Mg.val at HJ
  rw [hq] at a0 HPP HWW ⊢
  clear hq
  clear hP h hb0 hz0 hW ha hv hs
  go_enter Try.func69, Try.ntmps69
  go_upto_region 1 with (fail)
  rw [← HWW.out]
  clear HWW
  go_wp2_with fail
  refine HJ.out.mono ?_
  intro e w' hp
  have HE := Lib.hid (HPP.out _ _ _ _ hp hself (fun h _ => absurd rfl h) (fun h => by omega))
  obtain ⟨mv', iv', rfl, -, -⟩ := hp
  clear hself
  go_wp2_with fail
  exact HE.out
set_option maxRecDepth 100000 in
set_option maxHeartbeats 4000000 in
theorem do_5yes (h : Gp B w g ms mv iv S) (k : Nat) (hk : k ≤ 1000) (hv : Iv k S) (hm0 : -9223372036854775808 ≤ S.most) (hm1 : S.most ≤ 9223372036854775807) (a : GA) (ha : Ra w a) (hs : a.msg.seq = ((k + 1 : Nat) : Int)) (hq : a.kind = 5) (hr : ¬ roomP S = 0) :
    Calls Try.prog 69 #[.pointer (some ⟨g, 0, none⟩), a.val] w (DPost B w g ms k S a.kind) := by
  obtain ⟨W, hW⟩ : ∃ W, W = w.alloc (.cells #[.int .i64 a.kind, .string a.client, .string a.msg.topic, .string a.msg.payload, .int .i64 a.msg.qos, .bool a.msg.retain, .slice a.msg.pA a.msg.props.length a.msg.pc, .string a.msg.from_, .int .i64 a.msg.until_, .int .i64 a.msg.seq, .string a.msg.group, .int .i64 a.n, .slice a.fA a.free.length a.fc] 81) := ⟨_, rfl⟩
  have hb0 : Below w.heap.size w W := by rw [hW]; exact alloc_below _ _
  have hz0 : W.heap[w.heap.size]? = some (.cells #[.int .i64 a.kind, .string a.client, .string a.msg.topic, .string a.msg.payload, .int .i64 a.msg.qos, .bool a.msg.retain, .slice a.msg.pA a.msg.props.length a.msg.pc, .string a.msg.from_, .int .i64 a.msg.until_, .int .i64 a.msg.seq, .string a.msg.group, .int .i64 a.n, .slice a.fA a.free.length a.fc] 81 (0, 0)) := by rw [hW]; exact heap_alloc_new w _
  have HG := Lib.hid (h.below hb0)
  have HA := Lib.hid (ha.below hb0)
  have hil : S.I.length < 1000000 := by have := hv.il; omega
  have hll : S.L.length < 1000000 := by have := hv.ll; omega
  have hg0 := hv.g0
  have hg1 : S.gen < 1000000 := by have := hv.g1; omega
  have hcl : a.client.size ≤ maxLen := by have := ha.client; unfold maxLen; omega
  have hself : Step k S S := ⟨hv.mono (Nat.le_succ k), rfl, rfl, rfl, fun _ h => h⟩
  generalize hP : DPost B w g ms k S a.kind = PP
  have HPP := Lib.hid (show ∀ ans e w' S', MPost B W g ms ans S' e w' → Step k S S' → (a.kind ≠ 5 → a.kind ≠ 7 → S'.I.length = S.I.length) → (a.kind = 6 ∨ a.kind = 9 → S' = S ∧ Below w.heap.size w w') → PP (.returned (.bool ans)) w' from fun ans e w' S' h1 h2 h3 h4 => by
    obtain ⟨mv', iv', he, h5, h6⟩ := h1
    rw [← hP]
    exact ⟨ans, mv', iv', S', rfl, h5, (Gf.of_below hb0).trans h6, h2, h3, h4⟩)
  have a0 : W.cell? ⟨w.heap.size, 0, none⟩ = some (.int .i64 a.kind) := cell_of hz0 rfl
  have a1 : W.cell? ⟨w.heap.size, 1, none⟩ = some (.string a.client) := cell_of hz0 rfl
  have a2 : W.cell? ⟨w.heap.size, 2, none⟩ = some (.string a.msg.topic) := cell_of hz0 rfl
  have a3 : W.cell? ⟨w.heap.size, 3, none⟩ = some (.string a.msg.payload) := cell_of hz0 rfl
  have a4 : W.cell? ⟨w.heap.size, 4, none⟩ = some (.int .i64 a.msg.qos) := cell_of hz0 rfl
  have a5 : W.cell? ⟨w.heap.size, 5, none⟩ = some (.bool a.msg.retain) := cell_of hz0 rfl
  have a6 : W.cell? ⟨w.heap.size, 6, none⟩ = some (.slice a.msg.pA a.msg.props.length a.msg.pc) := cell_of hz0 rfl
  have a7 : W.cell? ⟨w.heap.size, 7, none⟩ = some (.string a.msg.from_) := cell_of hz0 rfl
  have a8 : W.cell? ⟨w.heap.size, 8, none⟩ = some (.int .i64 a.msg.until_) := cell_of hz0 rfl
  have a9 : W.cell? ⟨w.heap.size, 9, none⟩ = some (.int .i64 a.msg.seq) := cell_of hz0 rfl
  have a10 : W.cell? ⟨w.heap.size, 10, none⟩ = some (.string a.msg.group) := cell_of hz0 rfl
  have a11 : W.cell? ⟨w.heap.size, 11, none⟩ = some (.int .i64 a.n) := cell_of hz0 rfl
  have a12 : W.cell? ⟨w.heap.size, 12, none⟩ = some (.slice a.fA a.free.length a.fc) := cell_of hz0 rfl
  have HWW := Lib.hid hW
  have HB0 := Lib.hid hb0
  have HV := Lib.hid hv
  unfold GA.val
  have HJ := Lib.hid (add_yes HG.out hil hm0 hm1 hv.room a.msg hr ha.wf.2.1 (HA.out.props) ha.few)
  unfold Mg.val at HJ
  have HST := Lib.hid (fun (x : Tc.It) (hx : IsFresh a.msg x) => hv.add hx hs ha.topic ha.from_ ha.few hr)
  rw [hq] at a0 HPP HWW ⊢
  clear hq
  clear hP h hb0 hz0 hW ha hv hs
  go_enter Try.func69, Try.ntmps69
  go_upto_region 1 with (fail)
  rw [← HWW.out]
  clear HWW
  go_wp2_with fail
  refine HJ.out.mono ?_
  rintro e w' ⟨x, hx, hp⟩
  have HE := Lib.hid (HPP.out _ _ _ _ hp ⟨HST.out x hx, rfl, rfl, rfl, fun _ h => h.add hx.at_⟩ (fun h _ => absurd rfl h) (fun h => by omega))
  obtain ⟨mv', iv', rfl, -, -⟩ := hp
  clear hself
  go_wp2_with fail
  exact HE.out
set_option maxRecDepth 100000 in
set_option maxHeartbeats 4000000 in
theorem do_7 (h : Gp B w g ms mv iv S) (k : Nat) (hk : k ≤ 1000) (hv : Iv k S) (hm0 : -9223372036854775808 ≤ S.most) (hm1 : S.most ≤ 9223372036854775807) (a : GA) (ha : Ra w a) (hs : a.msg.seq = ((k + 1 : Nat) : Int)) (hq : a.kind = 7) :
    Calls Try.prog 69 #[.pointer (some ⟨g, 0, none⟩), a.val] w (DPost B w g ms k S a.kind) := by
  obtain ⟨W, hW⟩ : ∃ W, W = w.alloc (.cells #[.int .i64 a.kind, .string a.client, .string a.msg.topic, .string a.msg.payload, .int .i64 a.msg.qos, .bool a.msg.retain, .slice a.msg.pA a.msg.props.length a.msg.pc, .string a.msg.from_, .int .i64 a.msg.until_, .int .i64 a.msg.seq, .string a.msg.group, .int .i64 a.n, .slice a.fA a.free.length a.fc] 81) := ⟨_, rfl⟩
  have hb0 : Below w.heap.size w W := by rw [hW]; exact alloc_below _ _
  have hz0 : W.heap[w.heap.size]? = some (.cells #[.int .i64 a.kind, .string a.client, .string a.msg.topic, .string a.msg.payload, .int .i64 a.msg.qos, .bool a.msg.retain, .slice a.msg.pA a.msg.props.length a.msg.pc, .string a.msg.from_, .int .i64 a.msg.until_, .int .i64 a.msg.seq, .string a.msg.group, .int .i64 a.n, .slice a.fA a.free.length a.fc] 81 (0, 0)) := by rw [hW]; exact heap_alloc_new w _
  have HG := Lib.hid (h.below hb0)
  have HA := Lib.hid (ha.below hb0)
  have hil : S.I.length < 1000000 := by have := hv.il; omega
  have hll : S.L.length < 1000000 := by have := hv.ll; omega
  have hg0 := hv.g0
  have hg1 : S.gen < 1000000 := by have := hv.g1; omega
  have hcl : a.client.size ≤ maxLen := by have := ha.client; unfold maxLen; omega
  have hself : Step k S S := ⟨hv.mono (Nat.le_succ k), rfl, rfl, rfl, fun _ h => h⟩
  generalize hP : DPost B w g ms k S a.kind = PP
  have HPP := Lib.hid (show ∀ ans e w' S', MPost B W g ms ans S' e w' → Step k S S' → (a.kind ≠ 5 → a.kind ≠ 7 → S'.I.length = S.I.length) → (a.kind = 6 ∨ a.kind = 9 → S' = S ∧ Below w.heap.size w w') → PP (.returned (.bool ans)) w' from fun ans e w' S' h1 h2 h3 h4 => by
    obtain ⟨mv', iv', he, h5, h6⟩ := h1
    rw [← hP]
    exact ⟨ans, mv', iv', S', rfl, h5, (Gf.of_below hb0).trans h6, h2, h3, h4⟩)
  have a0 : W.cell? ⟨w.heap.size, 0, none⟩ = some (.int .i64 a.kind) := cell_of hz0 rfl
  have a1 : W.cell? ⟨w.heap.size, 1, none⟩ = some (.string a.client) := cell_of hz0 rfl
  have a2 : W.cell? ⟨w.heap.size, 2, none⟩ = some (.string a.msg.topic) := cell_of hz0 rfl
  have a3 : W.cell? ⟨w.heap.size, 3, none⟩ = some (.string a.msg.payload) := cell_of hz0 rfl
  have a4 : W.cell? ⟨w.heap.size, 4, none⟩ = some (.int .i64 a.msg.qos) := cell_of hz0 rfl
  have a5 : W.cell? ⟨w.heap.size, 5, none⟩ = some (.bool a.msg.retain) := cell_of hz0 rfl
  have a6 : W.cell? ⟨w.heap.size, 6, none⟩ = some (.slice a.msg.pA a.msg.props.length a.msg.pc) := cell_of hz0 rfl
  have a7 : W.cell? ⟨w.heap.size, 7, none⟩ = some (.string a.msg.from_) := cell_of hz0 rfl
  have a8 : W.cell? ⟨w.heap.size, 8, none⟩ = some (.int .i64 a.msg.until_) := cell_of hz0 rfl
  have a9 : W.cell? ⟨w.heap.size, 9, none⟩ = some (.int .i64 a.msg.seq) := cell_of hz0 rfl
  have a10 : W.cell? ⟨w.heap.size, 10, none⟩ = some (.string a.msg.group) := cell_of hz0 rfl
  have a11 : W.cell? ⟨w.heap.size, 11, none⟩ = some (.int .i64 a.n) := cell_of hz0 rfl
  have a12 : W.cell? ⟨w.heap.size, 12, none⟩ = some (.slice a.fA a.free.length a.fc) := cell_of hz0 rfl
  have HWW := Lib.hid hW
  have HB0 := Lib.hid hb0
  have HV := Lib.hid hv
  unfold GA.val
  have HJ := Lib.hid (done_any HG.out hil a.n a.client)
  have HST := Lib.hid (hv.done a.n a.client)
  rw [hq] at a0 HPP HWW ⊢
  clear hq
  clear hP h hb0 hz0 hW ha hv hs
  go_enter Try.func69, Try.ntmps69
  go_upto_region 1 with (fail)
  rw [← HWW.out]
  clear HWW
  go_wp2_with fail
  refine HJ.out.mono ?_
  intro e w' hp
  have HE := Lib.hid (HPP.out _ _ _ _ hp ⟨HST.out, rfl, rfl, rfl, fun _ h => h.sub (done_sub S _ _)⟩ (fun _ h => absurd rfl h) (fun h => by omega))
  obtain ⟨mv', iv', rfl, -, -⟩ := hp
  clear hself
  go_wp2_with fail
  exact HE.out
set_option maxRecDepth 100000 in
set_option maxHeartbeats 4000000 in
theorem do_8no (h : Gp B w g ms mv iv S) (k : Nat) (hk : k ≤ 1000) (hv : Iv k S) (hm0 : -9223372036854775808 ≤ S.most) (hm1 : S.most ≤ 9223372036854775807) (a : GA) (ha : Ra w a) (hs : a.msg.seq = ((k + 1 : Nat) : Int)) (hq : a.kind = 8) (hi : gidx S.I (isWith a.n a.client) = -1) :
    Calls Try.prog 69 #[.pointer (some ⟨g, 0, none⟩), a.val] w (DPost B w g ms k S a.kind) := by
  obtain ⟨W, hW⟩ : ∃ W, W = w.alloc (.cells #[.int .i64 a.kind, .string a.client, .string a.msg.topic, .string a.msg.payload, .int .i64 a.msg.qos, .bool a.msg.retain, .slice a.msg.pA a.msg.props.length a.msg.pc, .string a.msg.from_, .int .i64 a.msg.until_, .int .i64 a.msg.seq, .string a.msg.group, .int .i64 a.n, .slice a.fA a.free.length a.fc] 81) := ⟨_, rfl⟩
  have hb0 : Below w.heap.size w W := by rw [hW]; exact alloc_below _ _
  have hz0 : W.heap[w.heap.size]? = some (.cells #[.int .i64 a.kind, .string a.client, .string a.msg.topic, .string a.msg.payload, .int .i64 a.msg.qos, .bool a.msg.retain, .slice a.msg.pA a.msg.props.length a.msg.pc, .string a.msg.from_, .int .i64 a.msg.until_, .int .i64 a.msg.seq, .string a.msg.group, .int .i64 a.n, .slice a.fA a.free.length a.fc] 81 (0, 0)) := by rw [hW]; exact heap_alloc_new w _
  have HG := Lib.hid (h.below hb0)
  have HA := Lib.hid (ha.below hb0)
  have hil : S.I.length < 1000000 := by have := hv.il; omega
  have hll : S.L.length < 1000000 := by have := hv.ll; omega
  have hg0 := hv.g0
  have hg1 : S.gen < 1000000 := by have := hv.g1; omega
  have hcl : a.client.size ≤ maxLen := by have := ha.client; unfold maxLen; omega
  have hself : Step k S S := ⟨hv.mono (Nat.le_succ k), rfl, rfl, rfl, fun _ h => h⟩
  generalize hP : DPost B w g ms k S a.kind = PP
  have HPP := Lib.hid (show ∀ ans e w' S', MPost B W g ms ans S' e w' → Step k S S' → (a.kind ≠ 5 → a.kind ≠ 7 → S'.I.length = S.I.length) → (a.kind = 6 ∨ a.kind = 9 → S' = S ∧ Below w.heap.size w w') → PP (.returned (.bool ans)) w' from fun ans e w' S' h1 h2 h3 h4 => by
    obtain ⟨mv', iv', he, h5, h6⟩ := h1
    rw [← hP]
    exact ⟨ans, mv', iv', S', rfl, h5, (Gf.of_below hb0).trans h6, h2, h3, h4⟩)
  have a0 : W.cell? ⟨w.heap.size, 0, none⟩ = some (.int .i64 a.kind) := cell_of hz0 rfl
  have a1 : W.cell? ⟨w.heap.size, 1, none⟩ = some (.string a.client) := cell_of hz0 rfl
  have a2 : W.cell? ⟨w.heap.size, 2, none⟩ = some (.string a.msg.topic) := cell_of hz0 rfl
  have a3 : W.cell? ⟨w.heap.size, 3, none⟩ = some (.string a.msg.payload) := cell_of hz0 rfl
  have a4 : W.cell? ⟨w.heap.size, 4, none⟩ = some (.int .i64 a.msg.qos) := cell_of hz0 rfl
  have a5 : W.cell? ⟨w.heap.size, 5, none⟩ = some (.bool a.msg.retain) := cell_of hz0 rfl
  have a6 : W.cell? ⟨w.heap.size, 6, none⟩ = some (.slice a.msg.pA a.msg.props.length a.msg.pc) := cell_of hz0 rfl
  have a7 : W.cell? ⟨w.heap.size, 7, none⟩ = some (.string a.msg.from_) := cell_of hz0 rfl
  have a8 : W.cell? ⟨w.heap.size, 8, none⟩ = some (.int .i64 a.msg.until_) := cell_of hz0 rfl
  have a9 : W.cell? ⟨w.heap.size, 9, none⟩ = some (.int .i64 a.msg.seq) := cell_of hz0 rfl
  have a10 : W.cell? ⟨w.heap.size, 10, none⟩ = some (.string a.msg.group) := cell_of hz0 rfl
  have a11 : W.cell? ⟨w.heap.size, 11, none⟩ = some (.int .i64 a.n) := cell_of hz0 rfl
  have a12 : W.cell? ⟨w.heap.size, 12, none⟩ = some (.slice a.fA a.free.length a.fc) := cell_of hz0 rfl
  have HWW := Lib.hid hW
  have HB0 := Lib.hid hb0
  have HV := Lib.hid hv
  unfold GA.val
  have HJ := Lib.hid (back_no HG.out a.n a.client hi)
  rw [hq] at a0 HPP HWW ⊢
  clear hq
  clear hP h hb0 hz0 hW ha hv hs
  go_enter Try.func69, Try.ntmps69
  go_upto_region 1 with (fail)
  rw [← HWW.out]
  clear HWW
  go_wp2_with fail
  refine HJ.out.mono ?_
  intro e w' hp
  have HE := Lib.hid (HPP.out _ _ _ _ hp hself (fun _ _ => rfl) (fun h => by omega))
  obtain ⟨mv', iv', rfl, -, -⟩ := hp
  clear hself
  go_wp2_with fail
  exact HE.out
set_option maxRecDepth 100000 in
set_option maxHeartbeats 4000000 in
theorem do_8yes (h : Gp B w g ms mv iv S) (k : Nat) (hk : k ≤ 1000) (hv : Iv k S) (hm0 : -9223372036854775808 ≤ S.most) (hm1 : S.most ≤ 9223372036854775807) (a : GA) (ha : Ra w a) (hs : a.msg.seq = ((k + 1 : Nat) : Int)) (hq : a.kind = 8) (i : Nat) (x : Tc.It) (hi : gidx S.I (isWith a.n a.client) = (i : Int)) (hx : S.I[i]? = some x) :
    Calls Try.prog 69 #[.pointer (some ⟨g, 0, none⟩), a.val] w (DPost B w g ms k S a.kind) := by
  obtain ⟨W, hW⟩ : ∃ W, W = w.alloc (.cells #[.int .i64 a.kind, .string a.client, .string a.msg.topic, .string a.msg.payload, .int .i64 a.msg.qos, .bool a.msg.retain, .slice a.msg.pA a.msg.props.length a.msg.pc, .string a.msg.from_, .int .i64 a.msg.until_, .int .i64 a.msg.seq, .string a.msg.group, .int .i64 a.n, .slice a.fA a.free.length a.fc] 81) := ⟨_, rfl⟩
  have hb0 : Below w.heap.size w W := by rw [hW]; exact alloc_below _ _
  have hz0 : W.heap[w.heap.size]? = some (.cells #[.int .i64 a.kind, .string a.client, .string a.msg.topic, .string a.msg.payload, .int .i64 a.msg.qos, .bool a.msg.retain, .slice a.msg.pA a.msg.props.length a.msg.pc, .string a.msg.from_, .int .i64 a.msg.until_, .int .i64 a.msg.seq, .string a.msg.group, .int .i64 a.n, .slice a.fA a.free.length a.fc] 81 (0, 0)) := by rw [hW]; exact heap_alloc_new w _
  have HG := Lib.hid (h.below hb0)
  have HA := Lib.hid (ha.below hb0)
  have hil : S.I.length < 1000000 := by have := hv.il; omega
  have hll : S.L.length < 1000000 := by have := hv.ll; omega
  have hg0 := hv.g0
  have hg1 : S.gen < 1000000 := by have := hv.g1; omega
  have hcl : a.client.size ≤ maxLen := by have := ha.client; unfold maxLen; omega
  have hself : Step k S S := ⟨hv.mono (Nat.le_succ k), rfl, rfl, rfl, fun _ h => h⟩
  generalize hP : DPost B w g ms k S a.kind = PP
  have HPP := Lib.hid (show ∀ ans e w' S', MPost B W g ms ans S' e w' → Step k S S' → (a.kind ≠ 5 → a.kind ≠ 7 → S'.I.length = S.I.length) → (a.kind = 6 ∨ a.kind = 9 → S' = S ∧ Below w.heap.size w w') → PP (.returned (.bool ans)) w' from fun ans e w' S' h1 h2 h3 h4 => by
    obtain ⟨mv', iv', he, h5, h6⟩ := h1
    rw [← hP]
    exact ⟨ans, mv', iv', S', rfl, h5, (Gf.of_below hb0).trans h6, h2, h3, h4⟩)
  have a0 : W.cell? ⟨w.heap.size, 0, none⟩ = some (.int .i64 a.kind) := cell_of hz0 rfl
  have a1 : W.cell? ⟨w.heap.size, 1, none⟩ = some (.string a.client) := cell_of hz0 rfl
  have a2 : W.cell? ⟨w.heap.size, 2, none⟩ = some (.string a.msg.topic) := cell_of hz0 rfl
  have a3 : W.cell? ⟨w.heap.size, 3, none⟩ = some (.string a.msg.payload) := cell_of hz0 rfl
  have a4 : W.cell? ⟨w.heap.size, 4, none⟩ = some (.int .i64 a.msg.qos) := cell_of hz0 rfl
  have a5 : W.cell? ⟨w.heap.size, 5, none⟩ = some (.bool a.msg.retain) := cell_of hz0 rfl
  have a6 : W.cell? ⟨w.heap.size, 6, none⟩ = some (.slice a.msg.pA a.msg.props.length a.msg.pc) := cell_of hz0 rfl
  have a7 : W.cell? ⟨w.heap.size, 7, none⟩ = some (.string a.msg.from_) := cell_of hz0 rfl
  have a8 : W.cell? ⟨w.heap.size, 8, none⟩ = some (.int .i64 a.msg.until_) := cell_of hz0 rfl
  have a9 : W.cell? ⟨w.heap.size, 9, none⟩ = some (.int .i64 a.msg.seq) := cell_of hz0 rfl
  have a10 : W.cell? ⟨w.heap.size, 10, none⟩ = some (.string a.msg.group) := cell_of hz0 rfl
  have a11 : W.cell? ⟨w.heap.size, 11, none⟩ = some (.int .i64 a.n) := cell_of hz0 rfl
  have a12 : W.cell? ⟨w.heap.size, 12, none⟩ = some (.slice a.fA a.free.length a.fc) := cell_of hz0 rfl
  have HWW := Lib.hid hW
  have HB0 := Lib.hid hb0
  have HV := Lib.hid hv
  unfold GA.val
  have hbl : x.behind.length < 1000000 := by have := (hv.szs x (List.mem_of_getElem? hx)).behind; omega
  have HJ := Lib.hid (back_yes HG.out a.n a.client hcl i x hi hx hbl)
  have HST := Lib.hid (fun (y : Tc.It) (hy : IsBack a.client x y) => hv.back hx hy)
  have HX := Lib.hid hx
  clear hi hbl
  rw [hq] at a0 HPP HWW ⊢
  clear hq
  clear hP h hb0 hz0 hW ha hv hs
  go_enter Try.func69, Try.ntmps69
  go_upto_region 1 with (fail)
  rw [← HWW.out]
  clear HWW
  go_wp2_with fail
  refine HJ.out.mono ?_
  rintro e w' ⟨y, hy, hp⟩
  have HE := Lib.hid (HPP.out _ _ _ _ hp ⟨HST.out y hy, rfl, rfl, rfl, fun _ h => h.back HX.out hy⟩ (fun _ _ => List.length_set ..) (fun h => by omega))
  obtain ⟨mv', iv', rfl, -, -⟩ := hp
  clear hself
  go_wp2_with fail
  exact HE.out
set_option maxRecDepth 100000 in
set_option maxHeartbeats 4000000 in
theorem do_10 (h : Gp B w g ms mv iv S) (k : Nat) (hk : k ≤ 1000) (hv : Iv k S) (hm0 : -9223372036854775808 ≤ S.most) (hm1 : S.most ≤ 9223372036854775807) (a : GA) (ha : Ra w a) (hs : a.msg.seq = ((k + 1 : Nat) : Int)) (hq : a.kind = 10) :
    Calls Try.prog 69 #[.pointer (some ⟨g, 0, none⟩), a.val] w (DPost B w g ms k S a.kind) := by
  obtain ⟨W, hW⟩ : ∃ W, W = w.alloc (.cells #[.int .i64 a.kind, .string a.client, .string a.msg.topic, .string a.msg.payload, .int .i64 a.msg.qos, .bool a.msg.retain, .slice a.msg.pA a.msg.props.length a.msg.pc, .string a.msg.from_, .int .i64 a.msg.until_, .int .i64 a.msg.seq, .string a.msg.group, .int .i64 a.n, .slice a.fA a.free.length a.fc] 81) := ⟨_, rfl⟩
  have hb0 : Below w.heap.size w W := by rw [hW]; exact alloc_below _ _
  have hz0 : W.heap[w.heap.size]? = some (.cells #[.int .i64 a.kind, .string a.client, .string a.msg.topic, .string a.msg.payload, .int .i64 a.msg.qos, .bool a.msg.retain, .slice a.msg.pA a.msg.props.length a.msg.pc, .string a.msg.from_, .int .i64 a.msg.until_, .int .i64 a.msg.seq, .string a.msg.group, .int .i64 a.n, .slice a.fA a.free.length a.fc] 81 (0, 0)) := by rw [hW]; exact heap_alloc_new w _
  have HG := Lib.hid (h.below hb0)
  have HA := Lib.hid (ha.below hb0)
  have hil : S.I.length < 1000000 := by have := hv.il; omega
  have hll : S.L.length < 1000000 := by have := hv.ll; omega
  have hg0 := hv.g0
  have hg1 : S.gen < 1000000 := by have := hv.g1; omega
  have hcl : a.client.size ≤ maxLen := by have := ha.client; unfold maxLen; omega
  have hself : Step k S S := ⟨hv.mono (Nat.le_succ k), rfl, rfl, rfl, fun _ h => h⟩
  generalize hP : DPost B w g ms k S a.kind = PP
  have HPP := Lib.hid (show ∀ ans e w' S', MPost B W g ms ans S' e w' → Step k S S' → (a.kind ≠ 5 → a.kind ≠ 7 → S'.I.length = S.I.length) → (a.kind = 6 ∨ a.kind = 9 → S' = S ∧ Below w.heap.size w w') → PP (.returned (.bool ans)) w' from fun ans e w' S' h1 h2 h3 h4 => by
    obtain ⟨mv', iv', he, h5, h6⟩ := h1
    rw [← hP]
    exact ⟨ans, mv', iv', S', rfl, h5, (Gf.of_below hb0).trans h6, h2, h3, h4⟩)
  have a0 : W.cell? ⟨w.heap.size, 0, none⟩ = some (.int .i64 a.kind) := cell_of hz0 rfl
  have a1 : W.cell? ⟨w.heap.size, 1, none⟩ = some (.string a.client) := cell_of hz0 rfl
  have a2 : W.cell? ⟨w.heap.size, 2, none⟩ = some (.string a.msg.topic) := cell_of hz0 rfl
  have a3 : W.cell? ⟨w.heap.size, 3, none⟩ = some (.string a.msg.payload) := cell_of hz0 rfl
  have a4 : W.cell? ⟨w.heap.size, 4, none⟩ = some (.int .i64 a.msg.qos) := cell_of hz0 rfl
  have a5 : W.cell? ⟨w.heap.size, 5, none⟩ = some (.bool a.msg.retain) := cell_of hz0 rfl
  have a6 : W.cell? ⟨w.heap.size, 6, none⟩ = some (.slice a.msg.pA a.msg.props.length a.msg.pc) := cell_of hz0 rfl
  have a7 : W.cell? ⟨w.heap.size, 7, none⟩ = some (.string a.msg.from_) := cell_of hz0 rfl
  have a8 : W.cell? ⟨w.heap.size, 8, none⟩ = some (.int .i64 a.msg.until_) := cell_of hz0 rfl
  have a9 : W.cell? ⟨w.heap.size, 9, none⟩ = some (.int .i64 a.msg.seq) := cell_of hz0 rfl
  have a10 : W.cell? ⟨w.heap.size, 10, none⟩ = some (.string a.msg.group) := cell_of hz0 rfl
  have a11 : W.cell? ⟨w.heap.size, 11, none⟩ = some (.int .i64 a.n) := cell_of hz0 rfl
  have a12 : W.cell? ⟨w.heap.size, 12, none⟩ = some (.slice a.fA a.free.length a.fc) := cell_of hz0 rfl
  have HWW := Lib.hid hW
  have HB0 := Lib.hid hb0
  have HV := Lib.hid hv
  unfold GA.val
  have HJ := Lib.hid (sent_any HG.out a.n a.client hcl)
  have HST := Lib.hid ((hv.sent a.n a.client).mono (Nat.le_succ k))
  rw [hq] at a0 HPP HWW ⊢
  clear hq
  clear hP h hb0 hz0 hW ha hv hs
  go_enter Try.func69, Try.ntmps69
  go_upto_region 1 with (fail)
  rw [← HWW.out]
  clear HWW
  go_wp2_with fail
  refine HJ.out.mono ?_
  intro e w' hp
  have HE := Lib.hid (HPP.out _ _ _ _ hp ⟨HST.out, (sentP_st S _ _).1, (sentP_st S _ _).2.1, (sentP_st S _ _).2.2, fun h3 h => h.sent h3 _ _⟩ (fun _ _ => sentP_len S _ _) (fun h => by omega))
  obtain ⟨mv', iv', rfl, -, -⟩ := hp
  clear hself
  go_wp2_with fail
  exact HE.out
set_option maxRecDepth 100000 in
set_option maxHeartbeats 4000000 in
theorem do_11 (h : Gp B w g ms mv iv S) (k : Nat) (hk : k ≤ 1000) (hv : Iv k S) (hm0 : -9223372036854775808 ≤ S.most) (hm1 : S.most ≤ 9223372036854775807) (a : GA) (ha : Ra w a) (hs : a.msg.seq = ((k + 1 : Nat) : Int)) (hq : a.kind = 11) :
    Calls Try.prog 69 #[.pointer (some ⟨g, 0, none⟩), a.val] w (DPost B w g ms k S a.kind) := by
  obtain ⟨W, hW⟩ : ∃ W, W = w.alloc (.cells #[.int .i64 a.kind, .string a.client, .string a.msg.topic, .string a.msg.payload, .int .i64 a.msg.qos, .bool a.msg.retain, .slice a.msg.pA a.msg.props.length a.msg.pc, .string a.msg.from_, .int .i64 a.msg.until_, .int .i64 a.msg.seq, .string a.msg.group, .int .i64 a.n, .slice a.fA a.free.length a.fc] 81) := ⟨_, rfl⟩
  have hb0 : Below w.heap.size w W := by rw [hW]; exact alloc_below _ _
  have hz0 : W.heap[w.heap.size]? = some (.cells #[.int .i64 a.kind, .string a.client, .string a.msg.topic, .string a.msg.payload, .int .i64 a.msg.qos, .bool a.msg.retain, .slice a.msg.pA a.msg.props.length a.msg.pc, .string a.msg.from_, .int .i64 a.msg.until_, .int .i64 a.msg.seq, .string a.msg.group, .int .i64 a.n, .slice a.fA a.free.length a.fc] 81 (0, 0)) := by rw [hW]; exact heap_alloc_new w _
  have HG := Lib.hid (h.below hb0)
  have HA := Lib.hid (ha.below hb0)
  have hil : S.I.length < 1000000 := by have := hv.il; omega
  have hll : S.L.length < 1000000 := by have := hv.ll; omega
  have hg0 := hv.g0
  have hg1 : S.gen < 1000000 := by have := hv.g1; omega
  have hcl : a.client.size ≤ maxLen := by have := ha.client; unfold maxLen; omega
  have hself : Step k S S := ⟨hv.mono (Nat.le_succ k), rfl, rfl, rfl, fun _ h => h⟩
  generalize hP : DPost B w g ms k S a.kind = PP
  have HPP := Lib.hid (show ∀ ans e w' S', MPost B W g ms ans S' e w' → Step k S S' → (a.kind ≠ 5 → a.kind ≠ 7 → S'.I.length = S.I.length) → (a.kind = 6 ∨ a.kind = 9 → S' = S ∧ Below w.heap.size w w') → PP (.returned (.bool ans)) w' from fun ans e w' S' h1 h2 h3 h4 => by
    obtain ⟨mv', iv', he, h5, h6⟩ := h1
    rw [← hP]
    exact ⟨ans, mv', iv', S', rfl, h5, (Gf.of_below hb0).trans h6, h2, h3, h4⟩)
  have a0 : W.cell? ⟨w.heap.size, 0, none⟩ = some (.int .i64 a.kind) := cell_of hz0 rfl
  have a1 : W.cell? ⟨w.heap.size, 1, none⟩ = some (.string a.client) := cell_of hz0 rfl
  have a2 : W.cell? ⟨w.heap.size, 2, none⟩ = some (.string a.msg.topic) := cell_of hz0 rfl
  have a3 : W.cell? ⟨w.heap.size, 3, none⟩ = some (.string a.msg.payload) := cell_of hz0 rfl
  have a4 : W.cell? ⟨w.heap.size, 4, none⟩ = some (.int .i64 a.msg.qos) := cell_of hz0 rfl
  have a5 : W.cell? ⟨w.heap.size, 5, none⟩ = some (.bool a.msg.retain) := cell_of hz0 rfl
  have a6 : W.cell? ⟨w.heap.size, 6, none⟩ = some (.slice a.msg.pA a.msg.props.length a.msg.pc) := cell_of hz0 rfl
  have a7 : W.cell? ⟨w.heap.size, 7, none⟩ = some (.string a.msg.from_) := cell_of hz0 rfl
  have a8 : W.cell? ⟨w.heap.size, 8, none⟩ = some (.int .i64 a.msg.until_) := cell_of hz0 rfl
  have a9 : W.cell? ⟨w.heap.size, 9, none⟩ = some (.int .i64 a.msg.seq) := cell_of hz0 rfl
  have a10 : W.cell? ⟨w.heap.size, 10, none⟩ = some (.string a.msg.group) := cell_of hz0 rfl
  have a11 : W.cell? ⟨w.heap.size, 11, none⟩ = some (.int .i64 a.n) := cell_of hz0 rfl
  have a12 : W.cell? ⟨w.heap.size, 12, none⟩ = some (.slice a.fA a.free.length a.fc) := cell_of hz0 rfl
  have HWW := Lib.hid hW
  have HB0 := Lib.hid hb0
  have HV := Lib.hid hv
  unfold GA.val
  have HJ := Lib.hid (doubt_any HG.out hil)
  have HST := Lib.hid hv.doubt
  rw [hq] at a0 HPP HWW ⊢
  clear hq
  clear hP h hb0 hz0 hW ha hv hs
  go_enter Try.func69, Try.ntmps69
  go_upto_region 1 with (fail)
  rw [← HWW.out]
  clear HWW
  go_wp2_with fail
  refine HJ.out.mono ?_
  rintro e w' ⟨rfl, h1, h2⟩
  have HE := Lib.hid (HPP.out false _ w' { S with I := S.I.map dbt } ⟨mv, iv, rfl, h1, h2⟩ ⟨HST.out, rfl, rfl, rfl, fun _ h => h.doubt⟩ (fun _ _ => List.length_map ..) (fun h => by omega))
  clear hself h1 h2
  go_wp2_with fail
  exact HE.out
set_option maxRecDepth 100000 in
set_option maxHeartbeats 4000000 in
theorem do_none (h : Gp B w g ms mv iv S) (k : Nat) (hk : k ≤ 1000) (hv : Iv k S) (hm0 : -9223372036854775808 ≤ S.most) (hm1 : S.most ≤ 9223372036854775807) (a : GA) (ha : Ra w a) (hs : a.msg.seq = ((k + 1 : Nat) : Int)) (n1 : ¬ a.kind = 1) (n2 : ¬ a.kind = 2) (n3 : ¬ a.kind = 3) (n4 : ¬ a.kind = 4) (n5 : ¬ a.kind = 5) (n7 : ¬ a.kind = 7) (n8 : ¬ a.kind = 8) (n10 : ¬ a.kind = 10) (n11 : ¬ a.kind = 11) :
    Calls Try.prog 69 #[.pointer (some ⟨g, 0, none⟩), a.val] w (DPost B w g ms k S a.kind) := by
  obtain ⟨W, hW⟩ : ∃ W, W = w.alloc (.cells #[.int .i64 a.kind, .string a.client, .string a.msg.topic, .string a.msg.payload, .int .i64 a.msg.qos, .bool a.msg.retain, .slice a.msg.pA a.msg.props.length a.msg.pc, .string a.msg.from_, .int .i64 a.msg.until_, .int .i64 a.msg.seq, .string a.msg.group, .int .i64 a.n, .slice a.fA a.free.length a.fc] 81) := ⟨_, rfl⟩
  have hb0 : Below w.heap.size w W := by rw [hW]; exact alloc_below _ _
  have hz0 : W.heap[w.heap.size]? = some (.cells #[.int .i64 a.kind, .string a.client, .string a.msg.topic, .string a.msg.payload, .int .i64 a.msg.qos, .bool a.msg.retain, .slice a.msg.pA a.msg.props.length a.msg.pc, .string a.msg.from_, .int .i64 a.msg.until_, .int .i64 a.msg.seq, .string a.msg.group, .int .i64 a.n, .slice a.fA a.free.length a.fc] 81 (0, 0)) := by rw [hW]; exact heap_alloc_new w _
  have HG := Lib.hid (h.below hb0)
  have HA := Lib.hid (ha.below hb0)
  have hil : S.I.length < 1000000 := by have := hv.il; omega
  have hll : S.L.length < 1000000 := by have := hv.ll; omega
  have hg0 := hv.g0
  have hg1 : S.gen < 1000000 := by have := hv.g1; omega
  have hcl : a.client.size ≤ maxLen := by have := ha.client; unfold maxLen; omega
  have hself : Step k S S := ⟨hv.mono (Nat.le_succ k), rfl, rfl, rfl, fun _ h => h⟩
  generalize hP : DPost B w g ms k S a.kind = PP
  have HPP := Lib.hid (show ∀ ans e w' S', MPost B W g ms ans S' e w' → Step k S S' → (a.kind ≠ 5 → a.kind ≠ 7 → S'.I.length = S.I.length) → (a.kind = 6 ∨ a.kind = 9 → S' = S ∧ Below w.heap.size w w') → PP (.returned (.bool ans)) w' from fun ans e w' S' h1 h2 h3 h4 => by
    obtain ⟨mv', iv', he, h5, h6⟩ := h1
    rw [← hP]
    exact ⟨ans, mv', iv', S', rfl, h5, (Gf.of_below hb0).trans h6, h2, h3, h4⟩)
  have a0 : W.cell? ⟨w.heap.size, 0, none⟩ = some (.int .i64 a.kind) := cell_of hz0 rfl
  have a1 : W.cell? ⟨w.heap.size, 1, none⟩ = some (.string a.client) := cell_of hz0 rfl
  have a2 : W.cell? ⟨w.heap.size, 2, none⟩ = some (.string a.msg.topic) := cell_of hz0 rfl
  have a3 : W.cell? ⟨w.heap.size, 3, none⟩ = some (.string a.msg.payload) := cell_of hz0 rfl
  have a4 : W.cell? ⟨w.heap.size, 4, none⟩ = some (.int .i64 a.msg.qos) := cell_of hz0 rfl
  have a5 : W.cell? ⟨w.heap.size, 5, none⟩ = some (.bool a.msg.retain) := cell_of hz0 rfl
  have a6 : W.cell? ⟨w.heap.size, 6, none⟩ = some (.slice a.msg.pA a.msg.props.length a.msg.pc) := cell_of hz0 rfl
  have a7 : W.cell? ⟨w.heap.size, 7, none⟩ = some (.string a.msg.from_) := cell_of hz0 rfl
  have a8 : W.cell? ⟨w.heap.size, 8, none⟩ = some (.int .i64 a.msg.until_) := cell_of hz0 rfl
  have a9 : W.cell? ⟨w.heap.size, 9, none⟩ = some (.int .i64 a.msg.seq) := cell_of hz0 rfl
  have a10 : W.cell? ⟨w.heap.size, 10, none⟩ = some (.string a.msg.group) := cell_of hz0 rfl
  have a11 : W.cell? ⟨w.heap.size, 11, none⟩ = some (.int .i64 a.n) := cell_of hz0 rfl
  have a12 : W.cell? ⟨w.heap.size, 12, none⟩ = some (.slice a.fA a.free.length a.fc) := cell_of hz0 rfl
  have HWW := Lib.hid hW
  have HB0 := Lib.hid hb0
  have HV := Lib.hid hv
  unfold GA.val
  have HE := Lib.hid (HPP.out false _ W S ⟨mv, iv, rfl, HG.out, Gf.refl _ _⟩ hself (fun _ _ => rfl) (fun _ => ⟨rfl, hb0⟩))
  generalize a.kind = kd at *

  clear hP h hb0 hz0 hW ha hv hs
  go_enter Try.func69, Try.ntmps69
  go_upto_region 1 with (fail)
  rw [← HWW.out]
  clear HWW
  clear hself
  go_wp2_with fail
  exact HE.out
theorem do_any (h : Gp B w g ms mv iv S) (k : Nat) (hk : k ≤ 1000) (hv : Iv k S) (hm0 : -9223372036854775808 ≤ S.most) (hm1 : S.most ≤ 9223372036854775807) (a : GA) (ha : Ra w a) (hs : a.msg.seq = ((k + 1 : Nat) : Int)) :
    Calls Try.prog 69 #[.pointer (some ⟨g, 0, none⟩), a.val] w (DPost B w g ms k S a.kind) := by
  by_cases n1 : a.kind = 1
  · exact do_1 h k hk hv hm0 hm1 a ha hs n1
  by_cases n2 : a.kind = 2
  · exact do_2 h k hk hv hm0 hm1 a ha hs n2
  by_cases n3 : a.kind = 3
  · exact do_3 h k hk hv hm0 hm1 a ha hs n3
  by_cases n4 : a.kind = 4
  · exact do_4 h k hk hv hm0 hm1 a ha hs n4
  by_cases n5 : a.kind = 5
  · by_cases hr : roomP S = 0
    · exact do_5no h k hk hv hm0 hm1 a ha hs n5 hr
    · exact do_5yes h k hk hv hm0 hm1 a ha hs n5 hr
  by_cases n7 : a.kind = 7
  · exact do_7 h k hk hv hm0 hm1 a ha hs n7
  by_cases n8 : a.kind = 8
  · rcases gidx_bd S.I (isWith a.n a.client) with hi | ⟨i, x, hi, hx, -⟩
    · exact do_8no h k hk hv hm0 hm1 a ha hs n8 hi
    · exact do_8yes h k hk hv hm0 hm1 a ha hs n8 i x hi hx
  by_cases n10 : a.kind = 10
  · exact do_10 h k hk hv hm0 hm1 a ha hs n10
  by_cases n11 : a.kind = 11
  · exact do_11 h k hk hv hm0 hm1 a ha hs n11
  exact do_none h k hk hv hm0 hm1 a ha hs n1 n2 n3 n4 n5 n7 n8 n10 n11
end
end Go.Proofs.Ytclhgnlhejohgaa.GrpW
set_option linter.unusedVariables false
set_option linter.unusedSimpArgs false
namespace Go.Proofs.Ytclhgnlhejohgaa.GrpW
open Go.RowKit Go.Proofs.Ytclhgnlhejohgaa.Tc Go.Proofs.Ytclhgnlhejohgaa.GrpP
open Go.Proofs.Ytclhgnlhejohgaa.PickW (kS kI)

theorem not_mut {w : World} {k : Nat} {cs : Array Value} {t : TypeId} {f : Nat × Nat} (h : w.heap[k]? = some (.cells cs t f)) (h1 : t ≠ 93) (h2 : t ≠ 57) (h3 : t ≠ 66) (h4 : t ≠ 45) : ¬ Mut w k := by
  rintro ⟨cur, f', t', hc, ht⟩
  rw [h] at hc
  injection hc with hc
  injection hc with _ hc
  subst hc
  rcases ht with ht | ht | ht | ht
  · exact h1 ht
  · exact h2 ht
  · exact h3 ht
  · exact h4 ht
theorem same_block {w w' : World} {b : Nat} (h : Tch [b] w w') (hb : w'.heap[b]? = w.heap[b]?) : Below w.heap.size w w' :=
  ⟨h.os, h.tape, h.output, h.size, fun k hk => by
    by_cases e : k = b
    · rw [e]; exact hb
    · exact h.block k hk (by simpa using e)⟩
def RPost (B : Nat) (w : World) (g ms k : Nat) (S : GS) (kind : Int) (free : List ByteArray) (e : Ending) (w' : World) : Prop :=
  ∃ (m : Tc.Mg) (s : ByteArray) (ok : Bool) (mv' iv' : Value) (S' : GS), e = .returned (.tuple #[m.val, .string s, .bool ok]) ∧ Gp B w' g ms mv' iv' S' ∧ Gf B w w' ∧ Step k S S' ∧ (kind ≠ 5 → kind ≠ 7 → kind ≠ 9 → S'.I.length = S.I.length) ∧
    (ok = true → ∃ (i : Nat) (x : Tc.It), nextN S'.st S'.I S'.L S'.last free = some i ∧ S'.I[i]? = some x ∧ m.seq = x.msg.seq ∧ s = (whomP S'.st S'.I S'.L S'.last i x free).1)
section
variable {B : Nat} {w : World} {g ms : Nat} {mv iv : Value} {S : GS}
set_option maxRecDepth 100000 in
set_option maxHeartbeats 8000000 in
theorem run_any (h : Gp B w g ms mv iv S) (k : Nat) (hk : k ≤ 1000) (hv : Iv k S) (hm0 : -9223372036854775808 ≤ S.most) (hm1 : S.most ≤ 9223372036854775807) (a : GA) (ha : Ra w a) (hs : a.msg.seq = ((k + 1 : Nat) : Int)) :
    Calls Try.prog 61 #[.pointer (some ⟨g, 0, none⟩), a.val] w (RPost B w g ms k S a.kind a.free) := by
  generalize hP : RPost B w g ms k S a.kind a.free = PP
  have HPP := Lib.hid (show ∀ (m : Tc.Mg) (s : ByteArray) (ok : Bool) (mv' iv' : Value) (S' : GS) (w' : World), Gp B w' g ms mv' iv' S' → Gf B w w' → Step k S S' → (a.kind ≠ 5 → a.kind ≠ 7 → a.kind ≠ 9 → S'.I.length = S.I.length) →
    (ok = true → ∃ (i : Nat) (x : Tc.It), nextN S'.st S'.I S'.L S'.last a.free = some i ∧ S'.I[i]? = some x ∧ m.seq = x.msg.seq ∧ s = (whomP S'.st S'.I S'.L S'.last i x a.free).1) → PP (.returned (.tuple #[m.val, .string s, .bool ok])) w' from fun m s ok mv' iv' S' w' h1 h2 h3 h4 h5 => by
    rw [← hP]
    exact ⟨m, s, ok, mv', iv', S', rfl, h1, h2, h3, h4, h5⟩)
  clear hP
  obtain ⟨W1, hW1⟩ : ∃ W, W = w.alloc (.cells #[.int .i64 a.kind, .string a.client, .string a.msg.topic, .string a.msg.payload, .int .i64 a.msg.qos, .bool a.msg.retain, .slice a.msg.pA a.msg.props.length a.msg.pc, .string a.msg.from_, .int .i64 a.msg.until_, .int .i64 a.msg.seq, .string a.msg.group, .int .i64 a.n, .slice a.fA a.free.length a.fc] 81) := ⟨_, rfl⟩
  obtain ⟨W2, hW2⟩ : ∃ W, W = W1.alloc (.cells #[.string ⟨#[]⟩, .string ⟨#[]⟩, .int .i64 0, .bool false, .slice none 0 0, .string ⟨#[]⟩, .int .i64 0, .int .i64 0, .string ⟨#[]⟩] 43) := ⟨_, rfl⟩
  have hb1 : Below w.heap.size w W1 := by rw [hW1]; exact alloc_below _ _
  have hb2 : Below W1.heap.size W1 W2 := by rw [hW2]; exact alloc_below _ _
  have hs1 : W1.heap.size = w.heap.size + 1 := by rw [hW1]; simp
  have hz1 : W1.heap[w.heap.size]? = some (.cells #[.int .i64 a.kind, .string a.client, .string a.msg.topic, .string a.msg.payload, .int .i64 a.msg.qos, .bool a.msg.retain, .slice a.msg.pA a.msg.props.length a.msg.pc, .string a.msg.from_, .int .i64 a.msg.until_, .int .i64 a.msg.seq, .string a.msg.group, .int .i64 a.n, .slice a.fA a.free.length a.fc] 81 (0, 0)) := by rw [hW1]; exact heap_alloc_new w _
  have hz1' := (hb2.block _ (lt_of_block hz1)).trans hz1
  have hz2 : W2.heap[w.heap.size + 1]? = some (.cells #[.string ⟨#[]⟩, .string ⟨#[]⟩, .int .i64 0, .bool false, .slice none 0 0, .string ⟨#[]⟩, .int .i64 0, .int .i64 0, .string ⟨#[]⟩] 43 (0, 0)) := by rw [hW2, ← hs1]; exact heap_alloc_new W1 _
  have hb12 := then_below hb1 hb2
  have HG := Lib.hid (h.below hb12)
  have HA := Lib.hid (ha.below hb12)
  have HD := Lib.hid (do_any HG.out k hk hv hm0 hm1 a HA.out hs)
  have HV := Lib.hid hv
  have HB12 := Lib.hid hb12
  have HZ1 := Lib.hid hz1'
  have HZ2 := Lib.hid hz2
  have HM1 := Lib.hid (not_mut hz1' (by decide) (by decide) (by decide) (by decide))
  have HM2 := Lib.hid (not_mut hz2 (by decide) (by decide) (by decide) (by decide))
  have HW1 := Lib.hid hW1
  have HW2 := Lib.hid hW2
  have HHG := Lib.hid h
  have HK := Lib.hid hk
  rw [hW1] at HW2
  have a0 : W2.cell? ⟨w.heap.size, 0, none⟩ = some (.int .i64 a.kind) := cell_of hz1' rfl
  have a1 : W2.cell? ⟨w.heap.size, 1, none⟩ = some (.string a.client) := cell_of hz1' rfl
  have a2 : W2.cell? ⟨w.heap.size, 2, none⟩ = some (.string a.msg.topic) := cell_of hz1' rfl
  have a3 : W2.cell? ⟨w.heap.size, 3, none⟩ = some (.string a.msg.payload) := cell_of hz1' rfl
  have a4 : W2.cell? ⟨w.heap.size, 4, none⟩ = some (.int .i64 a.msg.qos) := cell_of hz1' rfl
  have a5 : W2.cell? ⟨w.heap.size, 5, none⟩ = some (.bool a.msg.retain) := cell_of hz1' rfl
  have a6 : W2.cell? ⟨w.heap.size, 6, none⟩ = some (.slice a.msg.pA a.msg.props.length a.msg.pc) := cell_of hz1' rfl
  have a7 : W2.cell? ⟨w.heap.size, 7, none⟩ = some (.string a.msg.from_) := cell_of hz1' rfl
  have a8 : W2.cell? ⟨w.heap.size, 8, none⟩ = some (.int .i64 a.msg.until_) := cell_of hz1' rfl
  have a9 : W2.cell? ⟨w.heap.size, 9, none⟩ = some (.int .i64 a.msg.seq) := cell_of hz1' rfl
  have a10 : W2.cell? ⟨w.heap.size, 10, none⟩ = some (.string a.msg.group) := cell_of hz1' rfl
  have a11 : W2.cell? ⟨w.heap.size, 11, none⟩ = some (.int .i64 a.n) := cell_of hz1' rfl
  have a12 : W2.cell? ⟨w.heap.size, 12, none⟩ = some (.slice a.fA a.free.length a.fc) := cell_of hz1' rfl
  unfold GA.val at HD
  unfold GA.val
  clear h ha hv hs hb1 hb2 hz1 hz1' hz2 hb12 hW1 hW2 hs1 hm0 hm1 hk
  go_enter Try.func61, Try.ntmps61
  go_upto_region 1 with (fail)
  rw [← HW2.out]
  clear HW2 HW1
  go_wp2_with fail
  refine HD.out.mono ?_
  rintro e w3 ⟨ans, mv3, iv3, S3, rfl, hg3, hf3, hst3, hln3, hno3⟩
  have HG3 := Lib.hid hg3
  have HF3 := Lib.hid ((Gf.of_below HB12.out).trans hf3)
  have HST3 := Lib.hid hst3
  have HLN3 := Lib.hid hln3
  have HNO3 := Lib.hid hno3
  have HY1 := Lib.hid ((hf3.block _ (lt_of_block HZ1.out) (.inr HM1.out)).trans HZ1.out)
  have hzz := (hf3.block _ (lt_of_block HZ2.out) (.inr HM2.out)).trans HZ2.out
  have HZA := Lib.hid hzz
  have HN2 := Lib.hid (not_mut hzz (by decide) (by decide) (by decide) (by decide))
  have HY1M := Lib.hid (not_mut HY1.out (by decide) (by decide) (by decide) (by decide))
  clear hg3 hf3 hst3 hln3 hno3 hzz a0 a1 a2 a3 a4 a5 a6 a7 a8 a9 a10 a11 a12
  have x0 : w3.cell? ⟨w.heap.size, 0, none⟩ = some (.int .i64 a.kind) := cell_of HY1.out rfl
  have x11 : w3.cell? ⟨w.heap.size, 11, none⟩ = some (.int .i64 a.n) := cell_of HY1.out rfl
  have x12 : w3.cell? ⟨w.heap.size, 12, none⟩ = some (.slice a.fA a.free.length a.fc) := cell_of HY1.out rfl
  by_cases h9 : a.kind = 9
  · obtain ⟨e9, hb9⟩ := HNO3.out (.inr h9)
    have HIL := Lib.hid (show S3.I.length < 1000000 by have := HST3.out.1.il; have := HK.out; omega)
    have HX := Lib.hid (expire_any HG3.out HIL.out a.n)
    have HSS := Lib.hid (show Step k S (expP S3 a.n) from ⟨by rw [e9]; exact HV.out.exp a.n, HST3.out.2.1, HST3.out.2.2.1, HST3.out.2.2.2.1, fun h3 hsn => (HST3.out.2.2.2.2 h3 hsn).sub List.filter_sublist⟩)
    rw [h9] at x0 HPP
    clear e9 hb9
    go_wp2_with fail
    refine HX.out.mono ?_
    rintro e w4 ⟨A4, c4, mv4, iv4, rfl, hg4, hf4⟩
    have HG4 := Lib.hid hg4
    have HF4 := Lib.hid (HF3.out.trans hf4)
    have hy4 := (hf4.block _ (lt_of_block HY1.out) (.inr HY1M.out)).trans HY1.out
    have hza := (hf4.block _ (lt_of_block HZA.out) (.inr HN2.out)).trans HZA.out
    clear HZA
    have HZA := Lib.hid hza
    have x0' : w4.cell? ⟨w.heap.size, 0, none⟩ = some (.int .i64 a.kind) := cell_of hy4 rfl
    rw [h9] at x0'
    clear hg4 hf4 hy4 hza x0 x11 x12 h9
    have HSTP := Lib.hid HSS.out
    have HLEN := Lib.hid (show (9 : Int) ≠ 5 → (9 : Int) ≠ 7 → (9 : Int) ≠ 9 → (expP S3 a.n).I.length = S.I.length from fun _ _ h => absurd rfl h)
    have HNOK := Lib.hid (show false = true → ∃ (i : Nat) (x : Tc.It), nextN ((expP S3 a.n)).st ((expP S3 a.n)).I ((expP S3 a.n)).L ((expP S3 a.n)).last a.free = some i ∧ ((expP S3 a.n)).I[i]? = some x ∧ mg0.seq = x.msg.seq ∧ ByteArray.empty = (whomP ((expP S3 a.n)).st ((expP S3 a.n)).I ((expP S3 a.n)).L ((expP S3 a.n)).last i x a.free).1 from fun h => by cases h)
    have c0 : w4.cell? ⟨(w.heap.size + 1), 0, none⟩ = some (.string ⟨#[]⟩) := cell_of HZA.out rfl
    have c1 : w4.cell? ⟨(w.heap.size + 1), 1, none⟩ = some (.string ⟨#[]⟩) := cell_of HZA.out rfl
    have c2 : w4.cell? ⟨(w.heap.size + 1), 2, none⟩ = some (.int .i64 0) := cell_of HZA.out rfl
    have c3 : w4.cell? ⟨(w.heap.size + 1), 3, none⟩ = some (.bool false) := cell_of HZA.out rfl
    have c4 : w4.cell? ⟨(w.heap.size + 1), 4, none⟩ = some (.slice none 0 0) := cell_of HZA.out rfl
    have c5 : w4.cell? ⟨(w.heap.size + 1), 5, none⟩ = some (.string ⟨#[]⟩) := cell_of HZA.out rfl
    have c6 : w4.cell? ⟨(w.heap.size + 1), 6, none⟩ = some (.int .i64 0) := cell_of HZA.out rfl
    have c7 : w4.cell? ⟨(w.heap.size + 1), 7, none⟩ = some (.int .i64 0) := cell_of HZA.out rfl
    have c8 : w4.cell? ⟨(w.heap.size + 1), 8, none⟩ = some (.string ⟨#[]⟩) := cell_of HZA.out rfl
    have f0 := free_of HZA.out 0
    have f1 := free_of HZA.out 1
    have f2 := free_of HZA.out 2
    have f3 := free_of HZA.out 3
    have f4 := free_of HZA.out 4
    have f5 := free_of HZA.out 5
    have f6 := free_of HZA.out 6
    have f7 := free_of HZA.out 7
    have f8 := free_of HZA.out 8
    have hp := put9 HZA.out (.string ⟨#[]⟩) (.string ⟨#[]⟩) (.int .i64 0) (.bool false) (.slice none 0 0) (.string ⟨#[]⟩) (.int .i64 0) (.int .i64 0) (.string ⟨#[]⟩)
    have p0 := cell_of hp (o := 0) (v := .string ⟨#[]⟩) rfl
    have p1 := cell_of hp (o := 1) (v := .string ⟨#[]⟩) rfl
    have p2 := cell_of hp (o := 2) (v := .int .i64 0) rfl
    have p3 := cell_of hp (o := 3) (v := .bool false) rfl
    have p4 := cell_of hp (o := 4) (v := .slice none 0 0) rfl
    have p5 := cell_of hp (o := 5) (v := .string ⟨#[]⟩) rfl
    have p6 := cell_of hp (o := 6) (v := .int .i64 0) rfl
    have p7 := cell_of hp (o := 7) (v := .int .i64 0) rfl
    have p8 := cell_of hp (o := 8) (v := .string ⟨#[]⟩) rfl
    have HTC := Lib.hid (put9_tch w4 (w.heap.size + 1) (.string ⟨#[]⟩) (.string ⟨#[]⟩) (.int .i64 0) (.bool false) (.slice none 0 0) (.string ⟨#[]⟩) (.int .i64 0) (.int .i64 0) (.string ⟨#[]⟩))
    have hbz := same_block HTC.out (hp.trans HZA.out.symm)
    have HE := Lib.hid (HPP.out mg0 ByteArray.empty false _ _ (expP S3 a.n) _ (HG4.out.below hbz) (HF4.out.trans (Gf.of_below hbz)) HSTP.out HLEN.out HNOK.out)
    unfold mg0 Mg.val at HE
    clear hp hbz
    go_wp2_with fail
    exact bodyPost_ret (v := .tuple #[.agg #[.string ⟨#[]⟩, .string ⟨#[]⟩, .int .i64 0, .bool false, .slice none 0 0, .string ⟨#[]⟩, .int .i64 0, .int .i64 0, .string ⟨#[]⟩], .string ⟨#[]⟩, .bool false]) (by simp [results, Try.results61, go_sem, *]) rfl HE.out

  · by_cases h6 : a.kind = 6
    · obtain ⟨e6, hb6⟩ := HNO3.out (.inl h6)
      have HIV := Lib.hid HST3.out.1
      have HG3' := HG3.out
      rw [e6] at HG3'
      rw [e6] at HIV
      have HX := Lib.hid (next_any HG3' (by have := HIV.out.il; have := HK.out; omega) (by have := HIV.out.ll; have := HK.out; omega) HIV.out.names (fun x hx => ⟨(HIV.out.szs x hx).topic, (HIV.out.szs x hx).from_, (HIV.out.szs x hx).props⟩) a.fA a.fc a.free (HA.out.free.below hb6))
      have HB6 := Lib.hid (then_below HB12.out hb6)
      have HE6 := Lib.hid e6
      rw [h6] at x0 HPP
      clear e6 hb6 h9 h6 HG3'
      go_wp2_with fail
      refine HX.out.mono ?_
      rintro e w4 ⟨⟨m, rfl, hm⟩, hb4⟩
      have HM := Lib.hid hm
      have HZ4 := Lib.hid ((hb4.block _ (lt_of_block HZA.out)).trans HZA.out)
      have HB4 := Lib.hid (then_below HB6.out hb4)
      have HTL := Lib.hid (show (tellP S a.free).2 = true → ∃ (i : Nat) (x : Tc.It), nextN S.st S.I S.L S.last a.free = some i ∧ S.I[i]? = some x ∧ m.seq = x.msg.seq ∧ (tellP S a.free).1 = (whomP S.st S.I S.L S.last i x a.free).1 from fun hok => by
        cases hn : nextN S.st S.I S.L S.last a.free with
        | none => rw [tell_none hn] at hok; cases hok
        | some i =>
          obtain ⟨x, hx, -, -⟩ := next_some hn
          exact ⟨i, x, rfl, hx, HM.out i x hn hx, by rw [tell_some hn hx]⟩)
      have HSTP := Lib.hid (show Step k S S from ⟨HV.out.mono (Nat.le_succ k), rfl, rfl, rfl, fun _ h => h⟩)
      have HLEN := Lib.hid (show (6 : Int) ≠ 5 → (6 : Int) ≠ 7 → (6 : Int) ≠ 9 → S.I.length = S.I.length from fun _ _ _ => rfl)
      clear HM
      generalize tellP S a.free = r at *
      obtain ⟨s, ok⟩ := r
      dsimp only at HTL
      clear hm hb4 x0 x11 x12
      have c0 : w4.cell? ⟨(w.heap.size + 1), 0, none⟩ = some (.string ⟨#[]⟩) := cell_of HZ4.out rfl
      have c1 : w4.cell? ⟨(w.heap.size + 1), 1, none⟩ = some (.string ⟨#[]⟩) := cell_of HZ4.out rfl
      have c2 : w4.cell? ⟨(w.heap.size + 1), 2, none⟩ = some (.int .i64 0) := cell_of HZ4.out rfl
      have c3 : w4.cell? ⟨(w.heap.size + 1), 3, none⟩ = some (.bool false) := cell_of HZ4.out rfl
      have c4 : w4.cell? ⟨(w.heap.size + 1), 4, none⟩ = some (.slice none 0 0) := cell_of HZ4.out rfl
      have c5 : w4.cell? ⟨(w.heap.size + 1), 5, none⟩ = some (.string ⟨#[]⟩) := cell_of HZ4.out rfl
      have c6 : w4.cell? ⟨(w.heap.size + 1), 6, none⟩ = some (.int .i64 0) := cell_of HZ4.out rfl
      have c7 : w4.cell? ⟨(w.heap.size + 1), 7, none⟩ = some (.int .i64 0) := cell_of HZ4.out rfl
      have c8 : w4.cell? ⟨(w.heap.size + 1), 8, none⟩ = some (.string ⟨#[]⟩) := cell_of HZ4.out rfl
      have f0 := free_of HZ4.out 0
      have f1 := free_of HZ4.out 1
      have f2 := free_of HZ4.out 2
      have f3 := free_of HZ4.out 3
      have f4 := free_of HZ4.out 4
      have f5 := free_of HZ4.out 5
      have f6 := free_of HZ4.out 6
      have f7 := free_of HZ4.out 7
      have f8 := free_of HZ4.out 8
      have hp := put9 HZ4.out (.string m.topic) (.string m.payload) (.int .i64 m.qos) (.bool m.retain) (.slice m.pA m.props.length m.pc) (.string m.from_) (.int .i64 m.until_) (.int .i64 m.seq) (.string m.group)
      have p0 := cell_of hp (o := 0) (v := .string m.topic) rfl
      have p1 := cell_of hp (o := 1) (v := .string m.payload) rfl
      have p2 := cell_of hp (o := 2) (v := .int .i64 m.qos) rfl
      have p3 := cell_of hp (o := 3) (v := .bool m.retain) rfl
      have p4 := cell_of hp (o := 4) (v := .slice m.pA m.props.length m.pc) rfl
      have p5 := cell_of hp (o := 5) (v := .string m.from_) rfl
      have p6 := cell_of hp (o := 6) (v := .int .i64 m.until_) rfl
      have p7 := cell_of hp (o := 7) (v := .int .i64 m.seq) rfl
      have p8 := cell_of hp (o := 8) (v := .string m.group) rfl
      have HTC := Lib.hid (put9_tch w4 (w.heap.size + 1) (.string m.topic) (.string m.payload) (.int .i64 m.qos) (.bool m.retain) (.slice m.pA m.props.length m.pc) (.string m.from_) (.int .i64 m.until_) (.int .i64 m.seq) (.string m.group))
      have hbe := HB4.out.trans (HTC.out.below HB4.out.size (by intro i hi; simp at hi; omega))
      have HE := Lib.hid (HPP.out m s ok mv iv S _ (HHG.out.below hbe) (Gf.of_below hbe) HSTP.out HLEN.out HTL.out)
      unfold Mg.val at HE
      unfold Mg.val
      clear hp hbe
      go_wp2_with fail
      exact bodyPost_ret (v := .tuple #[.agg #[.string m.topic, .string m.payload, .int .i64 m.qos, .bool m.retain, .slice m.pA m.props.length m.pc, .string m.from_, .int .i64 m.until_, .int .i64 m.seq, .string m.group], .string s, .bool ok]) (by simp [results, Try.results61, go_sem, *]) rfl HE.out
    · generalize a.kind = kd at *
      go_upto_region 5 with (fail)
      clear x0 x11 x12
      have HSTP := Lib.hid HST3.out
      have HLEN := Lib.hid (show kd ≠ 5 → kd ≠ 7 → kd ≠ 9 → S3.I.length = S.I.length from fun h5 h7 _ => HLN3.out h5 h7)
      have HNOK := Lib.hid (show false = true → ∃ (i : Nat) (x : Tc.It), nextN (S3).st (S3).I (S3).L (S3).last a.free = some i ∧ (S3).I[i]? = some x ∧ mg0.seq = x.msg.seq ∧ ByteArray.empty = (whomP (S3).st (S3).I (S3).L (S3).last i x a.free).1 from fun h => by cases h)
      have c0 : w3.cell? ⟨(w.heap.size + 1), 0, none⟩ = some (.string ⟨#[]⟩) := cell_of HZA.out rfl
      have c1 : w3.cell? ⟨(w.heap.size + 1), 1, none⟩ = some (.string ⟨#[]⟩) := cell_of HZA.out rfl
      have c2 : w3.cell? ⟨(w.heap.size + 1), 2, none⟩ = some (.int .i64 0) := cell_of HZA.out rfl
      have c3 : w3.cell? ⟨(w.heap.size + 1), 3, none⟩ = some (.bool false) := cell_of HZA.out rfl
      have c4 : w3.cell? ⟨(w.heap.size + 1), 4, none⟩ = some (.slice none 0 0) := cell_of HZA.out rfl
      have c5 : w3.cell? ⟨(w.heap.size + 1), 5, none⟩ = some (.string ⟨#[]⟩) := cell_of HZA.out rfl
      have c6 : w3.cell? ⟨(w.heap.size + 1), 6, none⟩ = some (.int .i64 0) := cell_of HZA.out rfl
      have c7 : w3.cell? ⟨(w.heap.size + 1), 7, none⟩ = some (.int .i64 0) := cell_of HZA.out rfl
      have c8 : w3.cell? ⟨(w.heap.size + 1), 8, none⟩ = some (.string ⟨#[]⟩) := cell_of HZA.out rfl
      have f0 := free_of HZA.out 0
      have f1 := free_of HZA.out 1
      have f2 := free_of HZA.out 2
      have f3 := free_of HZA.out 3
      have f4 := free_of HZA.out 4
      have f5 := free_of HZA.out 5
      have f6 := free_of HZA.out 6
      have f7 := free_of HZA.out 7
      have f8 := free_of HZA.out 8
      have hp := put9 HZA.out (.string ⟨#[]⟩) (.string ⟨#[]⟩) (.int .i64 0) (.bool false) (.slice none 0 0) (.string ⟨#[]⟩) (.int .i64 0) (.int .i64 0) (.string ⟨#[]⟩)
      have p0 := cell_of hp (o := 0) (v := .string ⟨#[]⟩) rfl
      have p1 := cell_of hp (o := 1) (v := .string ⟨#[]⟩) rfl
      have p2 := cell_of hp (o := 2) (v := .int .i64 0) rfl
      have p3 := cell_of hp (o := 3) (v := .bool false) rfl
      have p4 := cell_of hp (o := 4) (v := .slice none 0 0) rfl
      have p5 := cell_of hp (o := 5) (v := .string ⟨#[]⟩) rfl
      have p6 := cell_of hp (o := 6) (v := .int .i64 0) rfl
      have p7 := cell_of hp (o := 7) (v := .int .i64 0) rfl
      have p8 := cell_of hp (o := 8) (v := .string ⟨#[]⟩) rfl
      have HTC := Lib.hid (put9_tch w3 (w.heap.size + 1) (.string ⟨#[]⟩) (.string ⟨#[]⟩) (.int .i64 0) (.bool false) (.slice none 0 0) (.string ⟨#[]⟩) (.int .i64 0) (.int .i64 0) (.string ⟨#[]⟩))
      have hbz := same_block HTC.out (hp.trans HZA.out.symm)
      have HE := Lib.hid (HPP.out mg0 ByteArray.empty false _ _ S3 _ (HG3.out.below hbz) (HF3.out.trans (Gf.of_below hbz)) HSTP.out HLEN.out HNOK.out)
      unfold mg0 Mg.val at HE
      clear hp hbz
      go_wp2_with fail
      exact bodyPost_ret (v := .tuple #[.agg #[.string ⟨#[]⟩, .string ⟨#[]⟩, .int .i64 0, .bool false, .slice none 0 0, .string ⟨#[]⟩, .int .i64 0, .int .i64 0, .string ⟨#[]⟩], .string ⟨#[]⟩, .bool false]) (by simp [results, Try.results61, go_sem, *]) rfl HE.out

set_option maxHeartbeats 2000000 in
theorem idle_any (h : Gp B w g ms mv iv S) (hI : S.I.length < 1000000) (hL : S.L.length < 1000000) : Calls Try.prog 73 #[.pointer (some ⟨g, 0, none⟩)] w fun e w' => e = .returned (.bool (decide (S.L.length = 0) && decide (S.I.length = 0))) ∧ Below w.heap.size w w' := by
  generalize hP : (fun (e : Ending) (w' : World) => e = .returned (.bool (decide (S.L.length = 0) && decide (S.I.length = 0))) ∧ Below w.heap.size w w') = PP
  have HPP := Lib.hid (show ∀ w', Below w.heap.size w w' → PP (.returned (.bool (decide (S.L.length = 0) && decide (S.I.length = 0)))) w' from fun w' h1 => by
    rw [← hP]
    exact ⟨rfl, h1⟩)
  have HM := Lib.hid (members_any h hL)
  have HH := Lib.hid h
  clear hP h
  go_enter Try.func73, Try.ntmps73
  go_wp2_with fail
  refine HM.out.mono ?_
  rintro e w2 ⟨⟨v, rfl, hr⟩, hb⟩
  obtain ⟨A, c, rfl, -⟩ := hr.form
  have HI := Lib.hid (items_any (HH.out.below hb) hI)
  have HB := Lib.hid hb
  clear hr hb
  by_cases h0 : S.L.length = 0
  · rw [h0, decide_eq_true rfl, Bool.true_and] at HPP
    rw [h0]
    go_wp2_with fail
    refine HI.out.mono ?_
    rintro e w3 ⟨⟨v, rfl, ho, -⟩, hb⟩
    obtain ⟨A2, c2, rfl⟩ := own_form ho
    have HE := Lib.hid (HPP.out w3 (then_below HB.out hb))
    clear ho hb
    by_cases h1 : S.I.length = 0
    · rw [h1, decide_eq_true rfl] at HE
      rw [h1]
      go_wp2_with fail
      exact HE.out
    · rw [decide_eq_false h1] at HE
      have h1' : ((S.I.length : Int) == 0) = false := beq_eq_false_iff_ne.2 (by omega)
      go_wp2_with fail
      exact HE.out
  · rw [decide_eq_false h0, Bool.false_and] at HPP
    have HE := Lib.hid (HPP.out w2 HB.out)
    have h0' : ¬ ((S.L.length : Int) = 0) := by omega
    go_wp2_with fail
    exact HE.out
end
end Go.Proofs.Ytclhgnlhejohgaa.GrpW
