/- Levels laid together again; parts of a valid text. -/
import Derived.Test.YtnognmnjlnokeaaDoorTopE
set_option linter.unusedVariables false
set_option linter.unusedSimpArgs false
namespace Go.Proofs.YtnognmnjlnokeaaDoor.TopW
open Go.RowKit Go.Proofs.YtnognmnjlnokeaaDoor.Tc Go.Proofs.YtnognmnjlnokeaaDoor.TopP

def jn : List (List UInt8) → List UInt8
  | [] => []
  | [x] => x
  | x :: y :: t => x ++ 47 :: jn (y :: t)
theorem jn_cons (x : List UInt8) {t : List (List UInt8)} (h : t ≠ []) : jn (x :: t) = x ++ 47 :: jn t := by
  cases t with
  | nil => exact absurd rfl h
  | cons y t => rfl
theorem jn_snoc (l : List (List UInt8)) (x : List UInt8) : jn (l ++ [x]) = if l = [] then x else jn l ++ 47 :: x := by
  induction l with
  | nil => rfl
  | cons y l ih =>
    rw [if_neg (by simp), List.cons_append, jn_cons y (by simp), ih]
    cases l with
    | nil => rfl
    | cons z l => rw [if_neg (by simp), jn_cons y (by simp)]; simp
theorem jn_lv (l : List UInt8) : jn (lv l) = l := by
  induction l with
  | nil => rfl
  | cons c r ih =>
    unfold lv
    by_cases h : c = 47
    · rw [if_pos h, jn_cons [] (lv_ne r), ih, h]; rfl
    · rw [if_neg h]
      cases hr : lv r with
      | nil => exact absurd hr (lv_ne r)
      | cons x t =>
        rw [hr] at ih
        simp only
        cases t with
        | nil => rw [← ih]; rfl
        | cons y t => rw [jn_cons _ (by simp), List.cons_append, ← jn_cons x (by simp), ih]
theorem lv_jn {t : List (List UInt8)} (h : t ≠ []) (hn : ∀ x ∈ t, 47 ∉ x) : lv (jn t) = t := by
  induction t with
  | nil => exact absurd rfl h
  | cons x t ih =>
    cases t with
    | nil => exact lv_no (hn x (by simp))
    | cons y t => rw [jn_cons x (by simp), lv_cut _ (hn x (by simp)), ih (by simp) (fun z hz => hn z (by simp [hz]))]
theorem lv_mem (l : List UInt8) : ∀ x ∈ lv l, 47 ∉ x := by
  induction l with
  | nil => intro x hx; simp [lv] at hx; simp [hx]
  | cons c r ih =>
    intro x hx
    unfold lv at hx
    by_cases h : c = 47
    · rw [if_pos h] at hx
      rcases List.mem_cons.1 hx with rfl | hx
      · simp
      · exact ih x hx
    · rw [if_neg h] at hx
      cases hr : lv r with
      | nil => exact absurd hr (lv_ne r)
      | cons y t =>
        rw [hr] at hx ih
        simp only at hx
        rcases List.mem_cons.1 hx with rfl | hx
        · simp only [List.mem_cons, not_or]
          exact ⟨fun e => h e.symm, ih y (by simp)⟩
        · exact ih x (by simp [hx])
theorem mem_jn {t : List (List UInt8)} {x : List UInt8} (hx : x ∈ t) {c : UInt8} (hc : c ∈ x) : c ∈ jn t := by
  induction t with
  | nil => cases hx
  | cons y t ih =>
    cases t with
    | nil => rw [List.mem_singleton.1 hx] at hc; exact hc
    | cons z t =>
      rw [jn_cons y (by simp)]
      rcases List.mem_cons.1 hx with rfl | hx
      · simp [hc]
      · simp [ih hx]
set_option maxRecDepth 100000 in
set_option maxHeartbeats 1000000 in
theorem join_any (w : World) (A : Option Addr) (L : List ByteArray) (c : Nat) (hA : Txt w A L) (hL : L.length ≤ 1000) (hx : ∀ x ∈ L, x.size ≤ 1000) :
    Calls Tryd.prog 26 #[.slice A L.length c] w fun e w' => (∃ r : ByteArray, e = .returned (.string r) ∧ r.data.toList = jn (L.map fun x => x.data.toList) ∧ r.size ≤ 1001 * L.length) ∧ w = w' := by
  generalize hP : (fun (e : Ending) (w' : World) => (∃ r : ByteArray, e = .returned (.string r) ∧ r.data.toList = jn (L.map fun x => x.data.toList) ∧ r.size ≤ 1001 * L.length) ∧ w = w') = PP
  have HPP := Lib.hid (show ∀ (r : ByteArray), r.data.toList = jn (L.map fun x => x.data.toList) → r.size ≤ 1001 * L.length → PP (.returned (.string r)) w by
    intro r h1 h2
    rw [← hP]
    exact ⟨⟨r, rfl, h1, h2⟩, rfl⟩)
  have HA := Lib.hid hA
  have HX := Lib.hid hx
  clear hA hx hP
  go_enter Tryd.func26, Tryd.ntmps26
  go_wp2
  go_loop [3, 4] (fun s i => ∃ (k : Nat) (r : ByteArray), k ≤ L.length ∧ i = .int .i64 k ∧ s = .string r ∧ r.data.toList = jn ((L.take k).map fun x => x.data.toList) ∧ r.size ≤ 1001 * k) (fun _ i => L.length - (intOf i).toNat)
  case atStart => exact ⟨0, ByteArray.empty, by omega, rfl, rfl, rfl, by simp⟩
  case round =>
    obtain ⟨k, r, hk, rfl, rfl, hr, hz⟩ := hrel
    have HR := Lib.hid hr
    clear hr
    by_cases hlt : k < L.length
    · obtain ⟨x, hx⟩ : ∃ x, L[k]? = some x := ⟨_, List.getElem?_eq_getElem hlt⟩
      obtain ⟨b, o, rfl, h1⟩ := HA.out k x hx
      have hxs := HX.out x (List.mem_of_getElem? hx)
      have htk : (L.take (k + 1)).map (fun x => x.data.toList) = (L.take k).map (fun x => x.data.toList) ++ [x.data.toList] := by
        rw [List.take_add_one, hx, List.map_append]; rfl
      have HJ := Lib.hid (show jn ((L.take (k + 1)).map fun x => x.data.toList) = if k = 0 then x.data.toList else r.data.toList ++ 47 :: x.data.toList by
        rw [htk, jn_snoc, ← HR.out]
        by_cases h0 : k = 0
        · subst h0; simp
        · have hne : ¬ ((L.take k).map (fun x => x.data.toList) = []) := by
            intro e
            have := congrArg List.length e
            rw [List.length_map, List.length_take, List.length_nil] at this
            omega
          rw [if_neg hne, if_neg h0])
      clear hx htk
      by_cases h0 : k = 0
      · subst h0
        have HJ2 := Lib.hid (show x.data.toList = jn ((L.take 1).map fun x => x.data.toList) by rw [HJ.out]; rfl)
        have hr0 : r = ByteArray.empty := by
          apply ByteArray.ext; apply Array.ext'; rw [HR.out]; rfl
        subst hr0
        rw [Nat.add_zero] at h1
        go_wp2
        go_round
        case rel => exact ⟨1, _, by omega, rfl, rfl, by first | exact HJ2.out | (simpa using HJ2.out), by first | (simp; omega) | omega⟩
        case measure => simp [intOf]; omega
      · have HJ2 := Lib.hid (show r.data.toList ++ 47 :: x.data.toList = jn ((L.take (k + 1)).map fun x => x.data.toList) by rw [HJ.out, if_neg h0])
        have hk0 : 0 < k := by omega
        have hk0' : (0 : Int) < k := by omega
        clear h0
        go_wp2
        go_round
        case rel => exact ⟨k + 1, _, by omega, by go_num, rfl, by rw [← HJ2.out]; simp, by rw [ByteArray.size_append, ByteArray.size_append, show (⟨#[47]⟩ : ByteArray).size = 1 from rfl]; omega⟩
        case measure => simp [intOf]; omega
    · obtain rfl : k = L.length := by omega
      have HF := Lib.hid (HPP.out r (by rw [HR.out, List.take_of_length_le (Nat.le_refl _)]) hz)
      go_wp2_with fail
      exact HF.out
end Go.Proofs.YtnognmnjlnokeaaDoor.TopW
