/- Letters as the document tells them: by their bytes; the plain part. -/
import Derived.Test.YtnognmnjlnokeaaDoorTopPure
set_option linter.unusedVariables false
set_option linter.unusedSimpArgs false
namespace Go.Proofs.YtnognmnjlnokeaaDoor.TopP

/-- A letter's bytes. -/
def enc (n : Int) : List Int :=
  if n < 1 ∨ 1114111 < n ∨ (55296 ≤ n ∧ n ≤ 57343) then [] else if n < 128 then [n] else if n < 2048 then [192 + n / 64, 128 + n % 64]
  else if n < 65536 then [224 + n / 4096, 128 + n / 64 % 64, 128 + n % 64] else [240 + n / 262144, 128 + n / 4096 % 64, 128 + n / 64 % 64, 128 + n % 64]
theorem enc_cases (n : Int) : (enc n = [] ∧ (n < 1 ∨ 1114111 < n ∨ (55296 ≤ n ∧ n ≤ 57343))) ∨ (enc n = [n] ∧ 1 ≤ n ∧ n < 128) ∨ (enc n = [192 + n / 64, 128 + n % 64] ∧ 128 ≤ n ∧ n < 2048) ∨
    (enc n = [224 + n / 4096, 128 + n / 64 % 64, 128 + n % 64] ∧ 2048 ≤ n ∧ n < 65536 ∧ ¬(55296 ≤ n ∧ n ≤ 57343)) ∨ (enc n = [240 + n / 262144, 128 + n / 4096 % 64, 128 + n / 64 % 64, 128 + n % 64] ∧ 65536 ≤ n ∧ n ≤ 1114111) := by
  unfold enc
  by_cases h0 : n < 1 ∨ 1114111 < n ∨ (55296 ≤ n ∧ n ≤ 57343)
  · rw [if_pos h0]; exact .inl ⟨rfl, h0⟩
  rw [if_neg h0]
  by_cases h1 : n < 128
  · rw [if_pos h1]; exact .inr (.inl ⟨rfl, by omega, h1⟩)
  rw [if_neg h1]
  by_cases h2 : n < 2048
  · rw [if_pos h2]; exact .inr (.inr (.inl ⟨rfl, by omega, h2⟩))
  rw [if_neg h2]
  by_cases h3 : n < 65536
  · rw [if_pos h3]; exact .inr (.inr (.inr (.inl ⟨rfl, by omega, h3, by omega⟩)))
  rw [if_neg h3]
  exact .inr (.inr (.inr (.inr ⟨rfl, by omega, by omega⟩)))
theorem enc_range (n : Int) : ∀ e ∈ enc n, 0 ≤ e ∧ e < 256 := by
  intro e he
  rcases enc_cases n with ⟨h, r⟩ | ⟨h, r⟩ | ⟨h, r⟩ | ⟨h, r⟩ | ⟨h, r⟩ <;> rw [h] at he <;> simp at he
  all_goals omega
def P1 (c : Int) : Prop := 1 ≤ c ∧ c < 128
def P2 (c b : Int) : Prop := (192 ≤ c ∧ c < 224) ∧ (128 ≤ b ∧ b < 192) ∧ 128 ≤ (c - 192) * 64 + b - 128
def P3 (c b d : Int) : Prop := (224 ≤ c ∧ c < 240) ∧ (128 ≤ b ∧ b < 192) ∧ (128 ≤ d ∧ d < 192) ∧ 2048 ≤ ((c - 224) * 64 + b - 128) * 64 + d - 128 ∧ ¬(55296 ≤ ((c - 224) * 64 + b - 128) * 64 + d - 128 ∧ ((c - 224) * 64 + b - 128) * 64 + d - 128 ≤ 57343)
def P4 (c b d e : Int) : Prop := (240 ≤ c ∧ c < 248) ∧ (128 ≤ b ∧ b < 192) ∧ (128 ≤ d ∧ d < 192) ∧ (128 ≤ e ∧ e < 192) ∧ 65536 ≤ (((c - 240) * 64 + b - 128) * 64 + d - 128) * 64 + e - 128 ∧ (((c - 240) * 64 + b - 128) * 64 + d - 128) * 64 + e - 128 ≤ 1114111
theorem enc1 {c : Int} (hc : 0 ≤ c ∧ c < 256) : enc c = [c] ↔ P1 c := by
  unfold P1
  rcases enc_cases c with ⟨h, r⟩ | ⟨h, r⟩ | ⟨h, r⟩ | ⟨h, r⟩ | ⟨h, r⟩ <;> rw [h] <;> simp <;> omega
theorem enc2 {c b : Int} (hc : 0 ≤ c ∧ c < 256) (hb : 0 ≤ b ∧ b < 256) : enc ((c - 192) * 64 + b - 128) = [c, b] ↔ P2 c b := by
  unfold P2
  rcases enc_cases ((c - 192) * 64 + b - 128) with ⟨h, r⟩ | ⟨h, r⟩ | ⟨h, r⟩ | ⟨h, r⟩ | ⟨h, r⟩ <;> rw [h] <;> simp <;> omega
theorem enc3 {c b d : Int} (hc : 0 ≤ c ∧ c < 256) (hb : 0 ≤ b ∧ b < 256) (hd : 0 ≤ d ∧ d < 256) : enc (((c - 224) * 64 + b - 128) * 64 + d - 128) = [c, b, d] ↔ P3 c b d := by
  unfold P3
  rcases enc_cases (((c - 224) * 64 + b - 128) * 64 + d - 128) with ⟨h, r⟩ | ⟨h, r⟩ | ⟨h, r⟩ | ⟨h, r⟩ | ⟨h, r⟩ <;> rw [h] <;> simp <;> omega
theorem enc4 {c b d e : Int} (hc : 0 ≤ c ∧ c < 256) (hb : 0 ≤ b ∧ b < 256) (hd : 0 ≤ d ∧ d < 256) (he : 0 ≤ e ∧ e < 256) : enc ((((c - 240) * 64 + b - 128) * 64 + d - 128) * 64 + e - 128) = [c, b, d, e] ↔ P4 c b d e := by
  unfold P4
  rcases enc_cases ((((c - 240) * 64 + b - 128) * 64 + d - 128) * 64 + e - 128) with ⟨h, r⟩ | ⟨h, r⟩ | ⟨h, r⟩ | ⟨h, r⟩ | ⟨h, r⟩ <;> rw [h] <;> simp <;> omega
theorem map_nums {es : List Int} (h : ∀ e ∈ es, 0 ≤ e ∧ e < 256) (t : List UInt8) : es.map (fun n => UInt8.ofNat n.toNat) = t ↔ es = t.map fun c => (c.toNat : Int) := by
  induction es generalizing t with
  | nil => cases t <;> simp
  | cons x es ih =>
    cases t with
    | nil => simp
    | cons c t =>
      have hx := h x (by simp)
      rw [List.map_cons, List.map_cons, List.cons.injEq, List.cons.injEq, ih (fun e he => h e (by simp [he])) t]
      have : UInt8.ofNat x.toNat = c ↔ x = (c.toNat : Int) := by
        constructor
        · intro e
          rw [← e, UInt8.toNat_ofNat']
          omega
        · intro e
          rw [e]
          simp
      rw [this]
theorem fol1 {n : Nat} (h : 1 ≤ n ∧ n < 128) : fol n = 0 ∧ ini n = n ∧ lea n = 1 := by simp [fol, ini, lea, h]
theorem fol2 {n : Nat} (h : 192 ≤ n ∧ n < 224) : fol n = 1 ∧ ini n = n - 192 ∧ lea n = 128 := by
  have h1 : ¬ (1 ≤ n ∧ n < 128) := by omega
  simp [fol, ini, lea, h, h1]
theorem fol3 {n : Nat} (h : 224 ≤ n ∧ n < 240) : fol n = 2 ∧ ini n = n - 224 ∧ lea n = 2048 := by
  have h1 : ¬ (1 ≤ n ∧ n < 128) := by omega
  have h2 : ¬ (192 ≤ n ∧ n < 224) := by omega
  simp [fol, ini, lea, h, h1, h2]
theorem fol4 {n : Nat} (h : 240 ≤ n ∧ n < 248) : fol n = 3 ∧ ini n = n - 240 ∧ lea n = 65536 := by
  have h1 : ¬ (1 ≤ n ∧ n < 128) := by omega
  have h2 : ¬ (192 ≤ n ∧ n < 224) := by omega
  have h3 : ¬ (224 ≤ n ∧ n < 240) := by omega
  simp [fol, ini, lea, h, h1, h2, h3]
theorem fol0 {n : Nat} (h : n = 0 ∨ (128 ≤ n ∧ n < 192) ∨ 248 ≤ n) : fol n = 0 ∧ ini n = 0 ∧ lea n = 1 := by
  have h1 : ¬ (1 ≤ n ∧ n < 128) := by omega
  have h2 : ¬ (192 ≤ n ∧ n < 224) := by omega
  have h3 : ¬ (224 ≤ n ∧ n < 240) := by omega
  have h4 : ¬ (240 ≤ n ∧ n < 248) := by omega
  simp [fol, ini, lea, h1, h2, h3, h4]
theorem cont_iff (b : UInt8) : cont b = true ↔ 128 ≤ b.toNat ∧ b.toNat < 192 := by simp [cont]
theorem fits_iff (n l : Nat) : fits n l = true ↔ l ≤ n ∧ n ≤ 1114111 ∧ ¬(55296 ≤ n ∧ n ≤ 57343) := by
  simp [fits]
  omega
/-- What the first length that fits is. -/
theorem ulen_nil : ulen [] = 0 := rfl
theorem ulen_one {c : UInt8} (r : List UInt8) (h : P1 c.toNat) : ulen (c :: r) = 1 := by
  unfold P1 at h
  obtain ⟨h1, h2, h3⟩ := fol1 (n := c.toNat) (by omega)
  simp only [ulen, h1, h2, h3, List.take_zero, eat, fin]
  rw [if_neg (by omega), if_pos ((fits_iff _ _).2 (by omega))]
theorem ulen_short {c : UInt8} (h : ¬ P1 c.toNat) : ulen [c] = 0 := by
  unfold P1 at h
  have hc := c.toNat_lt
  rcases (show (c.toNat = 0 ∨ (128 ≤ c.toNat ∧ c.toNat < 192) ∨ 248 ≤ c.toNat) ∨ (192 ≤ c.toNat ∧ c.toNat < 224) ∨ (224 ≤ c.toNat ∧ c.toNat < 240) ∨ (240 ≤ c.toNat ∧ c.toNat < 248) by omega) with h0 | h0 | h0 | h0
  · obtain ⟨h1, h2, h3⟩ := fol0 h0
    simp only [ulen, h1, h2, h3, List.take_zero, eat, fin]
    rw [if_neg (by simp), if_neg (by rw [fits_iff]; omega)]
  · obtain ⟨h1, h2, h3⟩ := fol2 h0
    simp only [ulen, h1]; rw [if_pos (by simp)]
  · obtain ⟨h1, h2, h3⟩ := fol3 h0
    simp only [ulen, h1]; rw [if_pos (by simp)]
  · obtain ⟨h1, h2, h3⟩ := fol4 h0
    simp only [ulen, h1]; rw [if_pos (by simp)]
theorem ulen_two {c b : UInt8} (r : List UInt8) (h1 : ¬ P1 c.toNat) : (P2 c.toNat b.toNat → ulen (c :: b :: r) = 2) ∧ (¬ P2 c.toNat b.toNat → r = [] ∨ ¬ (224 ≤ c.toNat ∧ c.toNat < 248) → ulen (c :: b :: r) = 0) := by
  have hc := c.toNat_lt
  have hb := b.toNat_lt
  unfold P1 at h1
  rcases (show (c.toNat = 0 ∨ (128 ≤ c.toNat ∧ c.toNat < 192) ∨ 248 ≤ c.toNat) ∨ (192 ≤ c.toNat ∧ c.toNat < 224) ∨ (224 ≤ c.toNat ∧ c.toNat < 240) ∨ (240 ≤ c.toNat ∧ c.toNat < 248) by omega) with h0 | h0 | h0 | h0
  · obtain ⟨e1, e2, e3⟩ := fol0 h0
    have : ulen (c :: b :: r) = 0 := by
      simp only [ulen, e1, e2, e3, List.take_zero, eat, fin]
      rw [if_neg (by simp), if_neg (by rw [fits_iff]; omega)]
    exact ⟨fun h => by unfold P2 at h; omega, fun _ _ => this⟩
  · obtain ⟨e1, e2, e3⟩ := fol2 h0
    simp only [ulen, e1, e2, e3, List.take_succ_cons, List.take_zero, eat]
    rw [if_neg (by simp)]
    by_cases hcb : cont b = true
    · have hcb' := (cont_iff b).1 hcb
      rw [if_pos hcb]
      simp only [fin]
      constructor
      · intro h
        unfold P2 at h
        rw [if_pos ((fits_iff _ _).2 (by omega))]
      · intro h _
        unfold P2 at h
        rw [if_neg (by rw [fits_iff]; omega)]
    · rw [if_neg hcb]
      rw [cont_iff] at hcb
      exact ⟨fun h => by unfold P2 at h; omega, fun _ _ => rfl⟩
  · obtain ⟨e1, e2, e3⟩ := fol3 h0
    refine ⟨fun h => by unfold P2 at h; omega, fun _ h => ?_⟩
    rcases h with rfl | h
    · simp only [ulen, e1]; rw [if_pos (by simp)]
    · omega
  · obtain ⟨e1, e2, e3⟩ := fol4 h0
    refine ⟨fun h => by unfold P2 at h; omega, fun _ h => ?_⟩
    rcases h with rfl | h
    · simp only [ulen, e1]; rw [if_pos (by simp)]
    · omega
theorem ulen_three {c b d : UInt8} (r : List UInt8) (h1 : ¬ P1 c.toNat) (h2 : ¬ P2 c.toNat b.toNat) : (P3 c.toNat b.toNat d.toNat → ulen (c :: b :: d :: r) = 3) ∧ (¬ P3 c.toNat b.toNat d.toNat → r = [] ∨ ¬ (240 ≤ c.toNat ∧ c.toNat < 248) → ulen (c :: b :: d :: r) = 0) := by
  have hc := c.toNat_lt
  have hb := b.toNat_lt
  have hd := d.toNat_lt
  by_cases hcl : 224 ≤ c.toNat ∧ c.toNat < 248
  · rcases (show (224 ≤ c.toNat ∧ c.toNat < 240) ∨ (240 ≤ c.toNat ∧ c.toNat < 248) by omega) with h0 | h0
    · obtain ⟨e1, e2, e3⟩ := fol3 h0
      simp only [ulen, e1, e2, e3, List.take_succ_cons, List.take_zero, eat]
      rw [if_neg (by simp)]
      by_cases hcb : cont b = true
      · have hcb' := (cont_iff b).1 hcb
        rw [if_pos hcb]
        by_cases hcd : cont d = true
        · have hcd' := (cont_iff d).1 hcd
          rw [if_pos hcd]
          simp only [fin]
          constructor
          · intro h
            unfold P3 at h
            rw [if_pos ((fits_iff _ _).2 (by omega))]
          · intro h _
            unfold P3 at h
            rw [if_neg (by rw [fits_iff]; omega)]
        · rw [if_neg hcd]
          rw [cont_iff] at hcd
          exact ⟨fun h => by unfold P3 at h; omega, fun _ _ => rfl⟩
      · rw [if_neg hcb]
        rw [cont_iff] at hcb
        exact ⟨fun h => by unfold P3 at h; omega, fun _ _ => rfl⟩
    · obtain ⟨e1, e2, e3⟩ := fol4 h0
      refine ⟨fun h => by unfold P3 at h; omega, fun _ h => ?_⟩
      rcases h with rfl | h
      · simp only [ulen, e1]; rw [if_pos (by simp)]
      · omega
  · exact ⟨fun h => by unfold P3 at h; omega, fun _ _ => (ulen_two (d :: r) h1).2 h2 (.inr hcl)⟩
theorem ulen_four {c b d e : UInt8} (r : List UInt8) (h1 : ¬ P1 c.toNat) (h2 : ¬ P2 c.toNat b.toNat) (h3 : ¬ P3 c.toNat b.toNat d.toNat) : (P4 c.toNat b.toNat d.toNat e.toNat → ulen (c :: b :: d :: e :: r) = 4) ∧ (¬ P4 c.toNat b.toNat d.toNat e.toNat → ulen (c :: b :: d :: e :: r) = 0) := by
  have hc := c.toNat_lt
  have hb := b.toNat_lt
  have hd := d.toNat_lt
  have he := e.toNat_lt
  by_cases h0 : 240 ≤ c.toNat ∧ c.toNat < 248
  · obtain ⟨e1, e2, e3⟩ := fol4 h0
    simp only [ulen, e1, e2, e3, List.take_succ_cons, List.take_zero, eat]
    rw [if_neg (by simp)]
    by_cases hcb : cont b = true
    · have hcb' := (cont_iff b).1 hcb
      rw [if_pos hcb]
      by_cases hcd : cont d = true
      · have hcd' := (cont_iff d).1 hcd
        rw [if_pos hcd]
        by_cases hce : cont e = true
        · have hce' := (cont_iff e).1 hce
          rw [if_pos hce]
          simp only [fin]
          constructor
          · intro h
            unfold P4 at h
            rw [if_pos ((fits_iff _ _).2 (by omega))]
          · intro h
            unfold P4 at h
            rw [if_neg (by rw [fits_iff]; omega)]
        · rw [if_neg hce]
          rw [cont_iff] at hce
          exact ⟨fun h => by unfold P4 at h; omega, fun _ => rfl⟩
      · rw [if_neg hcd]
        rw [cont_iff] at hcd
        exact ⟨fun h => by unfold P4 at h; omega, fun _ => rfl⟩
    · rw [if_neg hcb]
      rw [cont_iff] at hcb
      exact ⟨fun h => by unfold P4 at h; omega, fun _ => rfl⟩
  · exact ⟨fun h => by unfold P4 at h; omega, fun _ => (ulen_three (e :: r) h1 h2).2 h3 (.inr h0)⟩
end Go.Proofs.YtnognmnjlnokeaaDoor.TopP
