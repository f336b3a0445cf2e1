/- MemberOwner: older. -/
import Derived.Test.YtclhgnlhejohgaaMemF
set_option linter.unusedVariables false
set_option linter.unusedSimpArgs false
namespace Go.Proofs.Ytclhgnlhejohgaa.MemW
open Go.RowKit Go.Proofs.Ytclhgnlhejohgaa.Tc Go.Proofs.Ytclhgnlhejohgaa.MemP
open Go.Proofs.Ytclhgnlhejohgaa.PickW (OwnS Newer kS kI cells9 str_cell strs_new alloc_below)

def Old (c : ByteArray) (s : Int) (x : Mem) : Prop := x.client ≠ c ∧ x.online = true ∧ x.since < s
instance (c : ByteArray) (s : Int) (x : Mem) : Decidable (Old c s x) := by unfold Old; infer_instance
def old (l : List Mem) (c : ByteArray) (s : Int) : Bool := l.any fun x => decide (Old c s x)
theorem old_hit {l : List Mem} {c : ByteArray} {s : Int} {k : Nat} {x : Mem} (hx : l[k]? = some x) (h : Old c s x) : old l c s = true := by
  unfold old
  rw [List.any_eq_true]
  exact ⟨x, List.mem_of_getElem? hx, decide_eq_true h⟩
theorem old_none {l : List Mem} {c : ByteArray} {s : Int} (h : ∀ (k : Nat) (x : Mem), l[k]? = some x → ¬ Old c s x) : old l c s = false := by
  unfold old
  rw [List.any_eq_false]
  intro x hx
  obtain ⟨k, hk, rfl⟩ := List.getElem_of_mem hx
  simpa using h k _ (List.getElem?_eq_getElem hk)
set_option maxRecDepth 100000 in
set_option maxHeartbeats 4000000 in
theorem older_any (w : World) (s : Nat) (v : Value) (l : List Mem) (gen : Int) (h : At w s v l gen) (hl : l.length < 1000000) (c : ByteArray) (since : Int) :
    Calls Try.prog 57 #[.pointer (some ⟨s, 0, none⟩), .string c, .int .i64 since] w fun e w' => e = .returned (.bool (old l c since)) ∧ Below w.heap.size w w' := by
  have HALL := Lib.hid (all_any w s v l gen h hl)
  clear h
  go_enter Try.func57, Try.ntmps57
  go_wp2_with fail
  refine HALL.out.mono ?_
  rintro e w2 ⟨⟨va, rfl, hr⟩, hb⟩
  obtain ⟨A, cc, rfl, hS⟩ := hr.form
  have HS := Lib.hid hS
  have HB0 := Lib.hid hb
  clear hS hr hb HALL
  go_wp2_with fail
  go_loopw [8] (fun z wr => ∃ k : Nat, k ≤ l.length ∧ z = .int .i64 k ∧ w2 = wr ∧ ∀ (j : Nat) (x : Mem), j < k → l[j]? = some x → ¬ Old c since x) (fun z _ => l.length - (intOf z).toNat)
  case atStart => exact ⟨0, by omega, rfl, by first | rfl | trivial, by intro j x h; omega⟩
  case round =>
    obtain ⟨k, hk, rfl, rfl, hn⟩ := hrel
    have HN := Lib.hid hn
    clear hn
    by_cases hlk : k < l.length
    · obtain ⟨x, hx⟩ : ∃ x, l[k]? = some x := ⟨_, List.getElem?_eq_getElem hlk⟩
      obtain ⟨b, off, rfl, -, c0, c1, c2, c3, -⟩ := mem_cells HS.out hx
      have HHIT := Lib.hid (fun h => @old_hit l c since k x hx h)
      have HSTEP := Lib.hid (show ¬ Old c since x → ∀ (j : Nat) (y : Mem), j < k + 1 → l[j]? = some y → ¬ Old c since y by
        intro hno j y hj hy
        by_cases e : j = k
        · subst e; rw [hx] at hy; injection hy with hy; subst hy; exact hno
        · exact HN.out j y (by omega) hy)
      clear hx
      by_cases h1 : x.client = c
      · have t1 := str_eq h1
        have HNX := Lib.hid (HSTEP.out (fun h => h.1 h1))
        clear h1
        go_wp2_with fail
        go_roundw
        case rel => exact ⟨k + 1, by omega, by go_num, by first | rfl | trivial, HNX.out⟩
        case measure => simp [intOf]; omega
      · have t1 := str_ne h1
        cases h2 : x.online with
        | false =>
          rw [h2] at c3
          have HNX := Lib.hid (HSTEP.out (fun h => absurd (h2.symm.trans h.2.1) (by decide)))
          clear h1 h2
          go_wp2_with fail
          go_roundw
          case rel => exact ⟨k + 1, by omega, by go_num, by first | rfl | trivial, HNX.out⟩
          case measure => simp [intOf]; omega
        | true =>
          rw [h2] at c3
          by_cases h3 : x.since < since
          · have HE := Lib.hid (HHIT.out ⟨h1, h2, h3⟩)
            clear h1 h2
            go_wp2_with fail
            go_ret
            exact ⟨by rw [HE.out]; rfl, HB0.out⟩
          · have HNX := Lib.hid (HSTEP.out (fun h => h3 h.2.2))
            clear h1 h2
            go_wp2_with fail
            go_roundw
            case rel => exact ⟨k + 1, by omega, by go_num, by first | rfl | trivial, HNX.out⟩
            case measure => simp [intOf]; omega
    · obtain rfl : k = l.length := by omega
      have HE := Lib.hid (old_none (fun j x hx => HN.out j x (List.getElem?_eq_some_iff.1 hx).1 hx))
      go_wp2
      go_ret
      exact ⟨by rw [HE.out]; rfl, HB0.out⟩
/-! ### Who owns, by the list's order. -/
theorem first_on {l : List Mem} {k : Nat} {z : Mem} (hz : l[k]? = some z) (hon : z.online = true) : ∃ (j : Nat) (x : Mem), j ≤ k ∧ l[j]? = some x ∧ x.online = true ∧ owner l = x.client ∧ ∀ (i : Nat) (y : Mem), i < j → l[i]? = some y → y.online = false := by
  induction l generalizing k with
  | nil => simp at hz
  | cons a l ih =>
    cases ha : a.online with
    | true => exact ⟨0, a, by omega, rfl, ha, by simp [owner, here, ha], by intro i y h; omega⟩
    | false =>
      cases k with
      | zero => simp at hz; subst hz; rw [ha] at hon; cases hon
      | succ k =>
        obtain ⟨j, x, hj, hx, h1, h2, h3⟩ := ih (k := k) (by simpa using hz)
        refine ⟨j + 1, x, by omega, by simpa using hx, h1, ?_, ?_⟩
        · rw [← h2]; simp [owner, here, ha]
        · intro i y hi hy
          cases i with
          | zero => simp at hy; subst hy; exact ha
          | succ i => exact h3 i y (by omega) (by simpa using hy)
theorem get_at {l : List Mem} {gen : Int} (h : MemP.Inv l gen) {j : Nat} {x : Mem} (hx : l[j]? = some x) : MemP.get l x.client = some x := by
  have : find l x.client = some j := find_at hx rfl (fun i y hi hy e => absurd (h.dist i j y x hy hx e) (by omega))
  unfold MemP.get
  rw [this]
  exact hx
theorem get_in {l : List Mem} {c : ByteArray} {y : Mem} (h : MemP.get l c = some y) : ∃ j : Nat, l[j]? = some y ∧ y.client = c := by
  unfold MemP.get at h
  cases hf : find l c with
  | none => rw [hf] at h; cases h
  | some i =>
    rw [hf] at h
    obtain ⟨x, hx, hc, _⟩ := find_some hf
    have h' : l[i]? = some y := h
    rw [hx] at h'
    injection h' with h'
    subst h'
    exact ⟨i, hx, hc⟩
/-- A member that is online and has no elder that is online owns. -/
theorem owner_stays {l : List Mem} {gen : Int} (h : MemP.Inv l gen) {c : ByteArray} {y : Mem} (hy : MemP.get l c = some y) (hon : y.online = true) (ho : old l c y.since = false) : owner l = c := by
  obtain ⟨k, hk, rfl⟩ := get_in hy
  obtain ⟨j, x, hj, hx, h1, h2, _⟩ := first_on hk hon
  rw [h2]
  by_cases e : j = k
  · subst e; rw [hk] at hx; injection hx with hx; rw [hx]
  · by_cases e2 : x.client = y.client
    · exact e2
    · have := old_hit hx (⟨e2, h1, h.sort j k x y hx hk (by omega)⟩ : Old y.client y.since x)
      rw [ho] at this; cases this
/-- Where one is online, the owner is a member, online, and no younger. -/
theorem owner_eldest {l : List Mem} {gen : Int} (h : MemP.Inv l gen) {k : Nat} {z : Mem} (hz : l[k]? = some z) (hon : z.online = true) : ∃ o, MemP.get l (owner l) = some o ∧ o.online = true ∧ o.since ≤ z.since := by
  obtain ⟨j, x, hj, hx, h1, h2, _⟩ := first_on hz hon
  refine ⟨x, by rw [h2]; exact get_at h hx, h1, ?_⟩
  by_cases e : j = k
  · subst e; rw [hz] at hx; injection hx with hx; rw [hx]; exact Int.le_refl _
  · have := h.sort j k x z hx hz (by omega); omega
theorem wrap_small {p : Nat} (h : p < 1000000) : IntKind.i64.wrap (p : Int) = p := by
  rw [IntKind.wrap_i64]
  omega
end Go.Proofs.Ytclhgnlhejohgaa.MemW
