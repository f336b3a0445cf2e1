/- Shared filters: the document's answers, and ShareIs, walked. -/
import Derived.Test.YtnognmnjlnokeaaDoorShaM
set_option linter.unusedVariables false
set_option linter.unusedSimpArgs false
namespace Go.Proofs.YtnognmnjlnokeaaDoor.TopW
open Go.RowKit Go.Proofs.YtnognmnjlnokeaaDoor.Tc Go.Proofs.YtnognmnjlnokeaaDoor.TopP

def few (x : Sh) : Bool := decide (x.group.size ≤ 200) && decide (x.filter.size ≤ 200)
theorem few_any (x : Sh) (w : World) : Calls Tryd.prog 27 #[x.val] w fun e w' => e = .returned (.bool (few x)) ∧ Below w.heap.size w w' := by
  obtain ⟨a, g, f⟩ := x
  have HB := Lib.hid (alloc_below w (.cells #[.bool a, .string g, .string f] 31))
  have HF := Lib.hid (show few ⟨a, g, f⟩ = (decide (g.size ≤ 200) && decide (f.size ≤ 200)) from rfl)
  generalize few ⟨a, g, f⟩ = fw at *
  unfold Sh.val
  by_cases h1 : (g.size : Int) ≤ 200
  · have k1 : decide (g.size ≤ 200) = true := decide_eq_true (by omega)
    by_cases h2 : (f.size : Int) ≤ 200
    · have k2 : decide (f.size ≤ 200) = true := decide_eq_true (by omega)
      rw [k1, k2] at HF
      clear k1 k2
      go_enter Tryd.func27, Tryd.ntmps27
      go_wp2
      go_ret
      exact ⟨by rw [HF.out]; rfl, HB.out⟩
    · have k2 : decide (f.size ≤ 200) = false := decide_eq_false (by omega)
      rw [k1, k2] at HF
      clear k1 k2
      go_enter Tryd.func27, Tryd.ntmps27
      go_wp2
      go_ret
      exact ⟨by rw [HF.out]; rfl, HB.out⟩
  · have k1 : decide (g.size ≤ 200) = false := decide_eq_false (by omega)
    rw [k1] at HF
    clear k1
    go_enter Tryd.func27, Tryd.ntmps27
    go_wp2
    go_ret
    exact ⟨by rw [HF.out]; rfl, HB.out⟩
theorem rkey_any (x : Sh) (w : World) (h : x.group.size ≤ 60000) (h2 : x.filter.size ≤ 60000) : Calls Tryd.prog 34 #[x.val] w fun e w' => e = .returned (.string (x.group ++ ⟨#[47]⟩ ++ x.filter)) ∧ Below w.heap.size w w' := by
  obtain ⟨a, g, f⟩ := x
  dsimp only at h h2
  have hgs : (g ++ (⟨#[47]⟩ : ByteArray)).size = g.size + 1 := by rw [ByteArray.size_append]; rfl
  have HB := Lib.hid (alloc_below w (.cells #[.bool a, .string g, .string f] 31))
  unfold Sh.val
  go_enter Tryd.func34, Tryd.ntmps34
  go_wp2
  go_ret
  exact ⟨rfl, HB.out⟩
theorem rtext_any (x : Sh) (w : World) (h : x.group.size ≤ 60000) (h2 : x.filter.size ≤ 60000) : Calls Tryd.prog 32 #[x.val] w fun e w' => e = .returned (.string (text x)) ∧ Below w.heap.size w w' := by
  obtain ⟨a, g, f⟩ := x
  dsimp only at h h2
  have HB := Lib.hid (alloc_below w (.cells #[.bool a, .string g, .string f] 31))
  have h3 : ((⟨#[36, 115, 104, 97, 114, 101, 47]⟩ : ByteArray) ++ g).size = 7 + g.size := by rw [ByteArray.size_append]; rfl
  have h4 : ((⟨#[36, 115, 104, 97, 114, 101, 47]⟩ : ByteArray) ++ g ++ (⟨#[47]⟩ : ByteArray)).size = 8 + g.size := by rw [ByteArray.size_append, h3, show (⟨#[47]⟩ : ByteArray).size = 1 from rfl]; omega
  have HT := Lib.hid (show text ⟨a, g, f⟩ = if a = true then (⟨#[36, 115, 104, 97, 114, 101, 47]⟩ : ByteArray) ++ g ++ (⟨#[47]⟩ : ByteArray) ++ f else f by
    unfold text
    dsimp only
    rw [show ofL root = (⟨#[36, 115, 104, 97, 114, 101, 47]⟩ : ByteArray) by kernel_rfl]
    simp only [ByteArray.append_assoc])
  generalize text ⟨a, g, f⟩ = T at *
  unfold Sh.val
  cases a with
  | true =>
    go_enter Tryd.func32, Tryd.ntmps32
    go_wp2
    go_ret
    exact ⟨by rw [HT.out]; rfl, HB.out⟩
  | false =>
    go_enter Tryd.func32, Tryd.ntmps32
    go_wp2
    go_ret
    exact ⟨by rw [HT.out]; rfl, HB.out⟩
theorem strat_two {a b : UInt8} (r : List UInt8) : strat (a :: b :: r) = if b = 45 then (if a = 115 then 2 else if a = 104 then 3 else if a = 108 then 4 else if a = 120 then 5 else 1) else 1 := by
  unfold strat
  simp only [List.take_succ_cons, List.take_zero, List.cons.injEq, and_true]
  by_cases hb : b = 45
  · subst hb
    simp
  · simp [hb]
set_option maxRecDepth 100000 in
set_option maxHeartbeats 2000000 in
theorem rstrat_any (s : ByteArray) (w : World) : Calls Tryd.prog 36 #[.string s] w fun e w' => e = .returned (.int .i64 (strat s.data.toList)) ∧ Below w.heap.size w w' := by
  have hB := Lib.hid (Below.refl w.heap.size w)
  by_cases h2 : s.size < 2
  · have HR := Lib.hid (strat_short (l := s.data.toList) (by rw [size_list]; exact h2))
    go_enter Tryd.func36, Tryd.ntmps36
    go_wp2
    go_ret
    exact ⟨by rw [HR.out]; rfl, hB.out⟩
  · obtain ⟨a, b, r, hl⟩ : ∃ a b r, s.data.toList = a :: b :: r := by
      match hq : s.data.toList with
      | [] => rw [← size_list, hq] at h2; simp at h2
      | [x] => rw [← size_list, hq] at h2; simp at h2
      | a :: b :: r => exact ⟨a, b, r, rfl⟩
    have h0' : 0 < s.size := by omega
    have h1' : 1 < s.size := by omega
    have q0 : (0 : Int) < s.size := by omega
    have q1 : (1 : Int) < s.size := by omega
    have g0 : ∀ h : 0 < s.size, s[0]'h = a := by
      intro h
      have e : s.data.toList[0]? = some a := by rw [hl]; rfl
      have e2 : s.data[0]? = some a := by rw [← Array.getElem?_toList]; exact e
      exact (Array.getElem?_eq_some_iff.1 e2).2
    have g1 : ∀ h : 1 < s.size, s[1]'h = b := by
      intro h
      have e : s.data.toList[1]? = some b := by rw [hl]; rfl
      have e2 : s.data[1]? = some b := by rw [← Array.getElem?_toList]; exact e
      exact (Array.getElem?_eq_some_iff.1 e2).2
    have HR := Lib.hid (show strat s.data.toList = if b = 45 then (if a = 115 then 2 else if a = 104 then 3 else if a = 108 then 4 else if a = 120 then 5 else 1) else 1 by rw [hl, strat_two])
    generalize strat s.data.toList = n at *
    clear hl
    have key : ∀ (x : UInt8) (k : Nat) (hk : k < 256), (((x.toNat : Int) == (k : Int)) = decide (x = UInt8.ofNat k)) := by
      intro x k hk
      rw [Bool.eq_iff_iff, beq_iff_eq, decide_eq_true_iff]
      constructor
      · intro h
        apply UInt8.toNat_inj.1
        rw [UInt8.toNat_ofNat_of_lt' hk]
        omega
      · rintro rfl
        rw [UInt8.toNat_ofNat_of_lt' hk]
    have k45 : ((b.toNat : Int) == 45) = decide (b = UInt8.ofNat 45) := key b 45 (by decide)
    have k1 : ((a.toNat : Int) == 115) = decide (a = UInt8.ofNat 115) := key a 115 (by decide)
    have k2 : ((a.toNat : Int) == 104) = decide (a = UInt8.ofNat 104) := key a 104 (by decide)
    have k3 : ((a.toNat : Int) == 108) = decide (a = UInt8.ofNat 108) := key a 108 (by decide)
    have k4 : ((a.toNat : Int) == 120) = decide (a = UInt8.ofNat 120) := key a 120 (by decide)
    have kn : ((b.toNat : Int) != 45) = !((b.toNat : Int) == 45) := rfl
    clear key
    by_cases hb : b = 45
    · rw [if_pos hb] at HR
      rw [decide_eq_true (show b = UInt8.ofNat 45 from hb)] at k45
      rw [k45] at kn
      by_cases h115 : a = 115
      · rw [if_pos h115] at HR
        rw [decide_eq_true (show a = UInt8.ofNat 115 from h115)] at k1
        clear h115 hb
        go_enter Tryd.func36, Tryd.ntmps36
        go_wp2
        go_ret
        exact ⟨by rw [HR.out]; rfl, hB.out⟩
      rw [if_neg h115] at HR
      rw [decide_eq_false (show ¬ a = UInt8.ofNat 115 from h115)] at k1
      clear h115
      by_cases h104 : a = 104
      · rw [if_pos h104] at HR
        rw [decide_eq_true (show a = UInt8.ofNat 104 from h104)] at k2
        clear h104 hb
        go_enter Tryd.func36, Tryd.ntmps36
        go_wp2
        go_ret
        exact ⟨by rw [HR.out]; rfl, hB.out⟩
      rw [if_neg h104] at HR
      rw [decide_eq_false (show ¬ a = UInt8.ofNat 104 from h104)] at k2
      clear h104
      by_cases h108 : a = 108
      · rw [if_pos h108] at HR
        rw [decide_eq_true (show a = UInt8.ofNat 108 from h108)] at k3
        clear h108 hb
        go_enter Tryd.func36, Tryd.ntmps36
        go_wp2
        go_ret
        exact ⟨by rw [HR.out]; rfl, hB.out⟩
      rw [if_neg h108] at HR
      rw [decide_eq_false (show ¬ a = UInt8.ofNat 108 from h108)] at k3
      clear h108
      by_cases h120 : a = 120
      · rw [if_pos h120] at HR
        rw [decide_eq_true (show a = UInt8.ofNat 120 from h120)] at k4
        clear h120 hb
        go_enter Tryd.func36, Tryd.ntmps36
        go_wp2
        go_ret
        exact ⟨by rw [HR.out]; rfl, hB.out⟩
      rw [if_neg h120] at HR
      rw [decide_eq_false (show ¬ a = UInt8.ofNat 120 from h120)] at k4
      clear h120
      clear hb
      go_enter Tryd.func36, Tryd.ntmps36
      go_wp2
      go_ret
      exact ⟨by rw [HR.out]; rfl, hB.out⟩
    · rw [if_neg hb] at HR
      rw [decide_eq_false (show ¬ b = UInt8.ofNat 45 from hb)] at k45
      rw [k45] at kn
      clear hb
      go_enter Tryd.func36, Tryd.ntmps36
      go_wp2
      go_ret
      exact ⟨by rw [HR.out]; rfl, hB.out⟩
end Go.Proofs.YtnognmnjlnokeaaDoor.TopW
set_option linter.unusedVariables false
set_option linter.unusedSimpArgs false
namespace Go.Proofs.YtnognmnjlnokeaaDoor.TopW
open Go.RowKit Go.Proofs.YtnognmnjlnokeaaDoor.Tc Go.Proofs.YtnognmnjlnokeaaDoor.TopP

theorem prefix_root {l : List UInt8} (h : Lib.hasPrefix l root = true) : l = root ++ l.drop 7 := by
  have h4 : root.isPrefixOf l = true := h
  rw [List.isPrefixOf_iff_prefix] at h4
  obtain ⟨r, hr⟩ := h4
  rw [← hr]
  rfl
theorem lv_root (r : List UInt8) : lv (root ++ r) = [36, 115, 104, 97, 114, 101] :: lv r := lv_cut (a := [36, 115, 104, 97, 114, 101]) r (by decide)
theorem parse_short {s : ByteArray} {r : List UInt8} (hs : s.data.toList = root ++ r) (hr : 47 ∉ r) : parse s = (Sh.none, false) := by
  have hp : part (s.data.toList.drop 7) = (r, []) := by
    have : s.data.toList.drop 7 = r := by rw [hs]; rfl
    rw [this]
    unfold part
    rw [cut_no hr]
  unfold parse
  rw [hp, filter_nil, Bool.and_false]
  split
  · split
    · rfl
    · rename_i h
      exact absurd (show Lib.hasPrefix s.data.toList root = true by
        show root.isPrefixOf s.data.toList = true
        rw [List.isPrefixOf_iff_prefix]
        exact ⟨_, hs.symm⟩) h
  · rfl
theorem parse_long {s : ByteArray} {a b : List UInt8} (hs : s.data.toList = root ++ (a ++ 47 :: b)) (ha : 47 ∉ a) (hf : isFilter s.data.toList = true) :
    a ≠ [35] ∧ parse s = if (a ≠ [] ∧ a ≠ [43]) ∧ isFilter b = true then (⟨true, ofL a, ofL b⟩, true) else (Sh.none, false) := by
  have hlv : lv s.data.toList = [36, 115, 104, 97, 114, 101] :: a :: lv b := by rw [hs, lv_root, lv_cut b ha]
  have hf2 := hf
  unfold isFilter at hf2
  rw [Bool.and_eq_true] at hf2
  obtain ⟨hm, hl⟩ := hf2
  rw [hlv] at hl
  obtain ⟨y, t, hyt⟩ : ∃ y t, lv b = y :: t := by
    cases h : lv b with
    | nil => exact absurd h (lv_ne b)
    | cons y t => exact ⟨y, t, rfl⟩
  rw [hyt] at hl
  simp only [levelsOk, Bool.and_eq_true] at hl
  obtain ⟨-, h2, -⟩ := hl
  have hv := ((may_iff _).1 hm).2.1
  have hva : valid a = true := by
    rw [hs] at hv
    have h1 := ((valid_parts _ [36, 115, 104, 97, 114, 101] (a ++ 47 :: b) (Nat.le_refl _)).1 hv).2
    exact ((valid_parts _ a b (Nat.le_refl _)).1 h1).1
  have hp : part (s.data.toList.drop 7) = (a, b) := by
    have : s.data.toList.drop 7 = a ++ 47 :: b := by rw [hs]; rfl
    rw [this]
    unfold part
    rw [cut_yes b ha]
  have hx : Lib.hasPrefix s.data.toList root = true := by
    show root.isPrefixOf s.data.toList = true
    rw [List.isPrefixOf_iff_prefix]
    exact ⟨_, hs.symm⟩
  have hP : parse s = if (isName a && isFilter b) = true then (⟨true, ofL a, ofL b⟩, true) else (Sh.none, false) := by
    unfold parse
    rw [if_pos hf, if_pos hx, hp]
  unfold isLevel at h2
  have n35 : 35 ∉ a := by
    intro h
    rw [if_pos (show has 35 a = true from decide_eq_true h)] at h2
    simp at h2
  rw [if_neg (show ¬ has 35 a = true by unfold has; simpa using n35)] at h2
  refine ⟨ne35 n35, ?_⟩
  rw [hP]
  have hn : isName a = true ↔ (a ≠ [] ∧ a ≠ [43]) := by
    rw [isName_iff, may_iff]
    constructor
    · rintro ⟨⟨q1, -, -⟩, q2, -⟩
      exact ⟨q1, ne43 q2⟩
    · rintro ⟨q1, q2⟩
      refine ⟨⟨q1, hva, by rw [lv_no ha]; simp⟩, ?_, n35⟩
      intro h
      rw [if_pos (show has 43 a = true from decide_eq_true h)] at h2
      exact q2 (of_decide_eq_true h2)
  by_cases hh : (a ≠ [] ∧ a ≠ [43]) ∧ isFilter b = true
  · rw [if_pos hh, if_pos (by rw [Bool.and_eq_true, hn]; exact hh)]
  · rw [if_neg hh, if_neg (by rw [Bool.and_eq_true, hn]; exact hh)]
theorem mem_len {l x : List UInt8} (h : x ∈ lv l) : x.length ≤ l.length := by
  have h1 := jn_len (lv_ne l)
  rw [jn_lv] at h1
  have h2 : ∀ (t : List (List UInt8)), x ∈ t → x.length + 1 ≤ wt t := by
    intro t
    induction t with
    | nil => intro h; cases h
    | cons y t ih =>
      intro h
      have hc : wt (y :: t) = y.length + 1 + wt t := by simp [wt]
      rcases List.mem_cons.1 h with rfl | h
      · omega
      · have := ih h; omega
  have := h2 _ h
  omega
end Go.Proofs.YtnognmnjlnokeaaDoor.TopW
set_option linter.unusedVariables false
set_option linter.unusedSimpArgs false
namespace Go.Proofs.YtnognmnjlnokeaaDoor.TopW
open Go.RowKit Go.Proofs.YtnognmnjlnokeaaDoor.Tc Go.Proofs.YtnognmnjlnokeaaDoor.TopP Go.Proofs.YtnognmnjlnokeaaDoorW.PrintWords

set_option maxRecDepth 100000 in
set_option maxHeartbeats 4000000 in
theorem rparse_any (s : ByteArray) (w : World) (hs : s.size ≤ 300) : Calls Tryd.prog 30 #[.string s] w fun e w' => e = .returned (.tuple #[(parse s).1.val, .bool (parse s).2]) ∧ Below w.heap.size w w' := by
  have hb0 := alloc_below w (.cells #[.bool false, .string ⟨#[]⟩, .string ⟨#[]⟩] 31)
  have HRF := Lib.hid (fun (x : ByteArray) W (hx : x.size ≤ 60000) => PTopicMatch.towncrierref16_IsFilter.calls 300000 x _ W (filter_r x (by omega) 300000 (by omega)))
  have HB0 := Lib.hid hb0
  have HZ := Lib.hid (heap_alloc_new w (.cells #[.bool false, .string ⟨#[]⟩, .string ⟨#[]⟩] 31))
  have hzs : (w.alloc (.cells #[.bool false, .string ⟨#[]⟩, .string ⟨#[]⟩] 31)).heap.size = w.heap.size + 1 := by simp
  have HZS := Lib.hid hzs
  have HST := Lib.hid (show ∀ w2, Below (w.alloc (.cells #[.bool false, .string ⟨#[]⟩, .string ⟨#[]⟩] 31)).heap.size (w.alloc (.cells #[.bool false, .string ⟨#[]⟩, .string ⟨#[]⟩] 31)) w2 → w2.heap[w.heap.size]? = some (.cells #[.bool false, .string ⟨#[]⟩, .string ⟨#[]⟩] 31 (0, 0)) by
    intro w2 hb
    exact (hb.block _ (by rw [HZS.out]; omega)).trans HZ.out)
  have HF := Lib.hid (HRF.out s (w.alloc (.cells #[.bool false, .string ⟨#[]⟩, .string ⟨#[]⟩] 31)) (by omega))
  clear hb0 hzs
  by_cases hf : isFilter s.data.toList = true
  case neg =>
    have hf' : isFilter s.data.toList = false := by simpa using hf
    rw [hf'] at HF
    have HR := Lib.hid (show parse s = (Sh.none, false) by unfold parse; rw [if_neg hf])
    clear hf hf'
    go_enter Tryd.func30, Tryd.ntmps30
    go_wp2_with fail
    refine HF.out.mono ?_
    rintro e w2 ⟨rfl, hb⟩
    have HB2 := Lib.hid hb
    clear hb
    have hz := HST.out w2 HB2.out
    have HB := Lib.hid (HB0.out.trans (HB2.out.mono HB0.out.size))
    have c0 : w2.cell? ⟨w.heap.size, 0, none⟩ = some (.bool false) := cell_of hz rfl
    have c1 : w2.cell? ⟨w.heap.size, 1, none⟩ = some (.string ⟨#[]⟩) := cell_of hz rfl
    have c2 : w2.cell? ⟨w.heap.size, 2, none⟩ = some (.string ⟨#[]⟩) := cell_of hz rfl
    have f0 := free_of hz 0
    have f1 := free_of hz 1
    have f2 := free_of hz 2
    have hp := put3 hz (.bool false) (.string ⟨#[]⟩) (.string ⟨#[]⟩)
    have p0 := cell_of hp (o := 0) (v := .bool false) rfl
    have p1 := cell_of hp (o := 1) (v := .string ⟨#[]⟩) rfl
    have p2 := cell_of hp (o := 2) (v := .string ⟨#[]⟩) rfl
    have HBE := Lib.hid (put3_below HB.out (.bool false) (.string ⟨#[]⟩) (.string ⟨#[]⟩))
    clear hz hp
    go_wp2_with fail
    exact bodyPost_ret (v := .tuple #[.agg #[.bool false, .string ⟨#[]⟩, .string ⟨#[]⟩], .bool false]) (by simp [results, Tryd.results30, go_sem, *]) rfl ⟨by rw [HR.out]; rfl, HBE.out⟩
  case pos =>
    rw [hf] at HF
    by_cases h7 : s.size < 7
    · have HR := Lib.hid (show parse s = (⟨false, ⟨#[]⟩, s⟩, true) by
        unfold parse
        rw [if_pos hf, if_neg]
        intro h
        have h1 := prefix_root h
        have h2 := congrArg List.length h1
        rw [List.length_append, size_list] at h2
        have : root.length = 7 := rfl
        omega)
      have hi7 : (s.size : Int) < 7 := by omega
      clear hf
      go_enter Tryd.func30, Tryd.ntmps30
      go_wp2_with fail
      refine HF.out.mono ?_
      rintro e w2 ⟨rfl, hb⟩
      have HB2 := Lib.hid hb
      clear hb
      have hz := HST.out w2 HB2.out
      have HB := Lib.hid (HB0.out.trans (HB2.out.mono HB0.out.size))
      have c0 : w2.cell? ⟨w.heap.size, 0, none⟩ = some (.bool false) := cell_of hz rfl
      have c1 : w2.cell? ⟨w.heap.size, 1, none⟩ = some (.string ⟨#[]⟩) := cell_of hz rfl
      have c2 : w2.cell? ⟨w.heap.size, 2, none⟩ = some (.string ⟨#[]⟩) := cell_of hz rfl
      have f0 := free_of hz 0
      have f1 := free_of hz 1
      have f2 := free_of hz 2
      have hp := put3 hz (.bool false) (.string ⟨#[]⟩) (.string s)
      have p0 := cell_of hp (o := 0) (v := .bool false) rfl
      have p1 := cell_of hp (o := 1) (v := .string ⟨#[]⟩) rfl
      have p2 := cell_of hp (o := 2) (v := .string s) rfl
      have HBE := Lib.hid (put3_below HB.out (.bool false) (.string ⟨#[]⟩) (.string s))
      clear hz hp
      go_wp2_with fail
      exact bodyPost_ret (v := .tuple #[.agg #[.bool false, .string ⟨#[]⟩, .string s], .bool true]) (by simp [results, Tryd.results30, go_sem, *]) rfl ⟨by rw [HR.out]; rfl, HBE.out⟩
    have hi7 : ¬ (s.size : Int) < 7 := by omega
    have hi8 : (7 : Int) ≤ s.size := by omega
    have hx7 : (s.extract 0 7).data.toList = s.data.toList.take 7 := by rw [ByteArray.data_extract, Array.toList_extract, List.extract_eq_take_drop]; simp
    obtain ⟨t, ht⟩ : ∃ t, t = s.extract 0 7 := ⟨_, rfl⟩
    rw [← ht] at hx7
    have he := ht.symm
    have e1 : (t.toList == [36, 115, 104, 97, 114, 101, 47]) = Lib.hasPrefix s.data.toList root := by
      have hr : Lib.hasPrefix s.data.toList root = root.isPrefixOf s.data.toList := rfl
      rw [hr, Lib.toList_data, hx7, Bool.eq_iff_iff, beq_iff_eq, List.isPrefixOf_iff_prefix, List.prefix_iff_eq_take]
      exact ⟨fun h => h.symm, fun h => h.symm⟩
    clear ht hx7
    cases hp : Lib.hasPrefix s.data.toList root with
    | false =>
      have HR := Lib.hid (show parse s = (⟨false, ⟨#[]⟩, s⟩, true) by
        unfold parse
        rw [if_pos hf, if_neg (by rw [hp]; decide)])
      rw [hp] at e1
      clear hf hp
      go_enter Tryd.func30, Tryd.ntmps30
      go_wp2_with fail
      refine HF.out.mono ?_
      rintro e w2 ⟨rfl, hb⟩
      have HB2 := Lib.hid hb
      clear hb
      have hz := HST.out w2 HB2.out
      have HB := Lib.hid (HB0.out.trans (HB2.out.mono HB0.out.size))
      have c0 : w2.cell? ⟨w.heap.size, 0, none⟩ = some (.bool false) := cell_of hz rfl
      have c1 : w2.cell? ⟨w.heap.size, 1, none⟩ = some (.string ⟨#[]⟩) := cell_of hz rfl
      have c2 : w2.cell? ⟨w.heap.size, 2, none⟩ = some (.string ⟨#[]⟩) := cell_of hz rfl
      have f0 := free_of hz 0
      have f1 := free_of hz 1
      have f2 := free_of hz 2
      have hp := put3 hz (.bool false) (.string ⟨#[]⟩) (.string s)
      have p0 := cell_of hp (o := 0) (v := .bool false) rfl
      have p1 := cell_of hp (o := 1) (v := .string ⟨#[]⟩) rfl
      have p2 := cell_of hp (o := 2) (v := .string s) rfl
      have HBE := Lib.hid (put3_below HB.out (.bool false) (.string ⟨#[]⟩) (.string s))
      clear hz hp
      go_wp2_with fail
      exact bodyPost_ret (v := .tuple #[.agg #[.bool false, .string ⟨#[]⟩, .string s], .bool true]) (by simp [results, Tryd.results30, go_sem, *]) rfl ⟨by rw [HR.out]; rfl, HBE.out⟩
    | true =>
      rw [hp] at e1
      have hpr := prefix_root hp
      clear hp
      obtain ⟨M, hM, hMR⟩ := levels_f s (by omega) 300000 (by omega)
      have HRL := Lib.hid (fun W => PTopicMatch.towncrierref16_Levels.calls 300000 s M W hM)
      obtain ⟨r, hr⟩ : ∃ r, r = s.data.toList.drop 7 := ⟨_, rfl⟩
      rw [← hr] at hpr
      have hM1 := hMR.1
      rw [hpr, lv_root] at hM1
      have hmn : M.length ≤ 400 := by
        have h1 := lvr_len hMR
        have h2 := lv_le s
        omega
      clear hM
      by_cases h47 : (47 : UInt8) ∈ r
      case neg =>
        have HR := Lib.hid (parse_short hpr h47)
        rw [lv_no h47] at hM1
        have hml : M.length = 2 := by have := congrArg List.length hM1; simpa using this
        clear hM1 hMR hpr hr hf
        go_enter Tryd.func30, Tryd.ntmps30
        go_wp2_with fail
        refine HF.out.mono ?_
        rintro e w2 ⟨rfl, hb⟩
        have HB2 := Lib.hid hb
        clear hb
        
        go_wp2_with fail
        refine (HRL.out _).mono ?_
        rintro e w3 ⟨v, rfl, hR, hb⟩
        obtain ⟨A, c, rfl, hLC, hC⟩ := Kd.R_reads hR
        have HB3 := Lib.hid (HB2.out.trans (hb.mono HB2.out.size))
        have hT := Txt.of_C hC
        have HT := Lib.hid hT
        clear hR hC hb
        clear hT HT
        rw [hml]
        have hd3 : decide ((2 : Int) < 3) = true := rfl
        have hz := HST.out w3 HB3.out
        have HB := Lib.hid (HB0.out.trans (HB3.out.mono HB0.out.size))
        have c0 : w3.cell? ⟨w.heap.size, 0, none⟩ = some (.bool false) := cell_of hz rfl
        have c1 : w3.cell? ⟨w.heap.size, 1, none⟩ = some (.string ⟨#[]⟩) := cell_of hz rfl
        have c2 : w3.cell? ⟨w.heap.size, 2, none⟩ = some (.string ⟨#[]⟩) := cell_of hz rfl
        have f0 := free_of hz 0
        have f1 := free_of hz 1
        have f2 := free_of hz 2
        have hp := put3 hz (.bool false) (.string ⟨#[]⟩) (.string ⟨#[]⟩)
        have p0 := cell_of hp (o := 0) (v := .bool false) rfl
        have p1 := cell_of hp (o := 1) (v := .string ⟨#[]⟩) rfl
        have p2 := cell_of hp (o := 2) (v := .string ⟨#[]⟩) rfl
        have HBE := Lib.hid (put3_below HB.out (.bool false) (.string ⟨#[]⟩) (.string ⟨#[]⟩))
        clear hz hp
        go_wp2_with fail
        exact bodyPost_ret (v := .tuple #[.agg #[.bool false, .string ⟨#[]⟩, .string ⟨#[]⟩], .bool false]) (by simp [results, Tryd.results30, go_sem, *]) rfl ⟨by rw [HR.out]; rfl, HBE.out⟩
      case pos =>
        obtain ⟨a, b, hab, ha⟩ := first_of h47
        rw [hab] at hpr
        obtain ⟨hna, hpl⟩ := parse_long hpr ha hf
        have HP := Lib.hid hpl
        rw [hab, lv_cut b ha] at hM1
        obtain ⟨x0, M0, rfl⟩ : ∃ x0 M0, M = x0 :: M0 := by
          cases M with
          | nil => simp at hM1
          | cons x0 M0 => exact ⟨x0, M0, rfl⟩
        obtain ⟨x1, N, rfl⟩ : ∃ x1 N, M0 = x1 :: N := by
          cases M0 with
          | nil => simp at hM1
          | cons x1 N => exact ⟨x1, N, rfl⟩
        simp only [List.map_cons, List.cons.injEq] at hM1
        obtain ⟨-, hx1, hN⟩ := hM1
        have hNl : 0 < N.length := by
          have := congrArg List.length hN
          rw [List.length_map] at this
          have h2 := List.length_pos_iff.2 (lv_ne b)
          omega
        have hxl : x1 = ofL a := by rw [← hx1, ofL_self]
        have hNs : ∀ x ∈ N, x.size ≤ 300 := fun x hx => Nat.le_trans (hMR.2 x (by simp [hx])) hs
        have hbs : b.length ≤ 300 := by
          have h1 := congrArg List.length hpr
          rw [List.length_append, List.length_append, List.length_cons, size_list] at h1
          omega
        have h1s : x1.size ≤ 300 := Nat.le_trans (hMR.2 x1 (by simp)) hs
        have hjn : jn (N.map fun x => x.data.toList) = b := by rw [hN, jn_lv]
        have hd3 : decide ((N.length : Int) + 2 < 3) = false := decide_eq_false (by omega)
        have hmn2 : N.length + 2 ≤ 400 := hmn
        clear hmn
        have hb1 : ∀ (z : ByteArray), (x1.toList == z.toList) = decide (a = z.data.toList) := by
          intro z
          rw [str_is, Lib.toList_data, hx1]
        have q0 := hb1 ⟨#[]⟩
        have q1 := hb1 ⟨#[43]⟩
        have q2 := hb1 ⟨#[35]⟩
        have u0 : (⟨#[]⟩ : ByteArray).toList = [] := by rw [Lib.toList_data]
        have u1 : (⟨#[43]⟩ : ByteArray).toList = [43] := by rw [Lib.toList_data]
        have u2 : (⟨#[35]⟩ : ByteArray).toList = [35] := by rw [Lib.toList_data]
        rw [u0] at q0
        rw [u1] at q1
        rw [u2] at q2
        rw [decide_eq_false (show ¬ a = (⟨#[35]⟩ : ByteArray).data.toList from hna)] at q2
        clear hb1 u0 u1 u2 hpr hab hna hf hpl hN h47 hx1 ha hMR hr
        by_cases h0 : a = []
        case pos =>
          have HR := Lib.hid (show parse s = (Sh.none, false) by rw [HP.out, if_neg (by rintro ⟨⟨h, -⟩, -⟩; exact h h0)])
          rw [decide_eq_true (show a = (⟨#[]⟩ : ByteArray).data.toList from h0)] at q0
          rw [decide_eq_false (show ¬ a = (⟨#[43]⟩ : ByteArray).data.toList from fun h => by rw [h0] at h; cases h)] at q1
          clear HP hjn h0 hxl
          go_enter Tryd.func30, Tryd.ntmps30
          go_wp2_with fail
          refine HF.out.mono ?_
          rintro e w2 ⟨rfl, hb⟩
          have HB2 := Lib.hid hb
          clear hb
          
          go_wp2_with fail
          refine (HRL.out _).mono ?_
          rintro e w3 ⟨v, rfl, hR, hb⟩
          obtain ⟨A, c, rfl, hLC, hC⟩ := Kd.R_reads hR
          have HB3 := Lib.hid (HB2.out.trans (hb.mono HB2.out.size))
          have hT := Txt.of_C hC
          have HT := Lib.hid hT
          clear hR hC hb
          
          obtain ⟨bb, off, rfl, ci⟩ := hT 1 x1 rfl
          clear hT
          generalize hMM : (x0 :: x1 :: N).length = mm at *
          obtain rfl : mm = N.length + 2 := by rw [← hMM]; rfl
          clear hMM
          clear HT
          have hz := HST.out w3 HB3.out
          have HB := Lib.hid (HB0.out.trans (HB3.out.mono HB0.out.size))
          have c0 : w3.cell? ⟨w.heap.size, 0, none⟩ = some (.bool false) := cell_of hz rfl
          have c1 : w3.cell? ⟨w.heap.size, 1, none⟩ = some (.string ⟨#[]⟩) := cell_of hz rfl
          have c2 : w3.cell? ⟨w.heap.size, 2, none⟩ = some (.string ⟨#[]⟩) := cell_of hz rfl
          have f0 := free_of hz 0
          have f1 := free_of hz 1
          have f2 := free_of hz 2
          have hp := put3 hz (.bool false) (.string ⟨#[]⟩) (.string ⟨#[]⟩)
          have p0 := cell_of hp (o := 0) (v := .bool false) rfl
          have p1 := cell_of hp (o := 1) (v := .string ⟨#[]⟩) rfl
          have p2 := cell_of hp (o := 2) (v := .string ⟨#[]⟩) rfl
          have HBE := Lib.hid (put3_below HB.out (.bool false) (.string ⟨#[]⟩) (.string ⟨#[]⟩))
          clear hz hp
          go_wp2_with fail
          exact bodyPost_ret (v := .tuple #[.agg #[.bool false, .string ⟨#[]⟩, .string ⟨#[]⟩], .bool false]) (by simp [results, Tryd.results30, go_sem, *]) rfl ⟨by rw [HR.out]; rfl, HBE.out⟩
        by_cases h1 : a = [43]
        case pos =>
          have HR := Lib.hid (show parse s = (Sh.none, false) by rw [HP.out, if_neg (by rintro ⟨⟨-, h⟩, -⟩; exact h h1)])
          rw [decide_eq_true (show a = (⟨#[43]⟩ : ByteArray).data.toList from h1)] at q1
          rw [decide_eq_false (show ¬ a = (⟨#[]⟩ : ByteArray).data.toList from h0)] at q0
          clear HP hjn h0 h1 hxl
          go_enter Tryd.func30, Tryd.ntmps30
          go_wp2_with fail
          refine HF.out.mono ?_
          rintro e w2 ⟨rfl, hb⟩
          have HB2 := Lib.hid hb
          clear hb
          
          go_wp2_with fail
          refine (HRL.out _).mono ?_
          rintro e w3 ⟨v, rfl, hR, hb⟩
          obtain ⟨A, c, rfl, hLC, hC⟩ := Kd.R_reads hR
          have HB3 := Lib.hid (HB2.out.trans (hb.mono HB2.out.size))
          have hT := Txt.of_C hC
          have HT := Lib.hid hT
          clear hR hC hb
          
          obtain ⟨bb, off, rfl, ci⟩ := hT 1 x1 rfl
          clear hT
          generalize hMM : (x0 :: x1 :: N).length = mm at *
          obtain rfl : mm = N.length + 2 := by rw [← hMM]; rfl
          clear hMM
          clear HT
          have hz := HST.out w3 HB3.out
          have HB := Lib.hid (HB0.out.trans (HB3.out.mono HB0.out.size))
          have c0 : w3.cell? ⟨w.heap.size, 0, none⟩ = some (.bool false) := cell_of hz rfl
          have c1 : w3.cell? ⟨w.heap.size, 1, none⟩ = some (.string ⟨#[]⟩) := cell_of hz rfl
          have c2 : w3.cell? ⟨w.heap.size, 2, none⟩ = some (.string ⟨#[]⟩) := cell_of hz rfl
          have f0 := free_of hz 0
          have f1 := free_of hz 1
          have f2 := free_of hz 2
          have hp := put3 hz (.bool false) (.string ⟨#[]⟩) (.string ⟨#[]⟩)
          have p0 := cell_of hp (o := 0) (v := .bool false) rfl
          have p1 := cell_of hp (o := 1) (v := .string ⟨#[]⟩) rfl
          have p2 := cell_of hp (o := 2) (v := .string ⟨#[]⟩) rfl
          have HBE := Lib.hid (put3_below HB.out (.bool false) (.string ⟨#[]⟩) (.string ⟨#[]⟩))
          clear hz hp
          go_wp2_with fail
          exact bodyPost_ret (v := .tuple #[.agg #[.bool false, .string ⟨#[]⟩, .string ⟨#[]⟩], .bool false]) (by simp [results, Tryd.results30, go_sem, *]) rfl ⟨by rw [HR.out]; rfl, HBE.out⟩
        rw [decide_eq_false (show ¬ a = (⟨#[43]⟩ : ByteArray).data.toList from h1)] at q1
        rw [decide_eq_false (show ¬ a = (⟨#[]⟩ : ByteArray).data.toList from h0)] at q0
        have HP2 := Lib.hid (show parse s = if isFilter b = true then (⟨true, x1, ofL b⟩, true) else (Sh.none, false) by
          rw [HP.out, hxl]
          by_cases hb : isFilter b = true
          · rw [if_pos ⟨⟨h0, h1⟩, hb⟩, if_pos hb]
          · rw [if_neg (fun h => hb h.2), if_neg hb])
        clear HP h0 h1 hxl
        
        go_enter Tryd.func30, Tryd.ntmps30
        go_wp2_with fail
        refine HF.out.mono ?_
        rintro e w2 ⟨rfl, hb⟩
        have HB2 := Lib.hid hb
        clear hb
        
        go_wp2_with fail
        refine (HRL.out _).mono ?_
        rintro e w3 ⟨v, rfl, hR, hb⟩
        obtain ⟨A, c, rfl, hLC, hC⟩ := Kd.R_reads hR
        have HB3 := Lib.hid (HB2.out.trans (hb.mono HB2.out.size))
        have hT := Txt.of_C hC
        have HT := Lib.hid hT
        clear hR hC hb
        
        obtain ⟨bb, off, rfl, ci⟩ := hT 1 x1 rfl
        have hT2 := Txt.rest hT 2
        have hcr : 2 ≤ c := by simp only [List.length_cons] at hLC; omega
        have hJ := join_any w3 (some ⟨bb, off + 2, none⟩) N (c - 2) hT2 (by omega) (fun x hx => Nat.le_trans (hNs x hx) (by omega))
        rw [hjn] at hJ
        have HJ := Lib.hid hJ
        have hci : ¬ c = 2 := by simp only [List.length_cons] at hLC; omega
        have hlc2 : ((N.length : Int) + 2) ≤ c := by simp only [List.length_cons] at hLC; omega
        clear hT hT2 hJ hjn
        generalize hMM : (x0 :: x1 :: N).length = mm at *
        obtain rfl : mm = N.length + 2 := by rw [← hMM]; rfl
        clear hMM
        go_wp2_with fail
        refine HJ.out.mono ?_
        rintro e w4 ⟨⟨q, rfl, hq, hqs⟩, rfl⟩
        have hqb : q = ofL b := by rw [← ofL_self q, hq]
        subst hqb
        have hbz : (ofL b).size ≤ 60000 := by rw [len_size (ofL_list b)]; omega
        have HF2 := Lib.hid (HRF.out (ofL b) w3 hbz)
        rw [ofL_list] at HF2
        clear hqs hq
        generalize hQ : ofL b = Q at *
        clear hQ
        by_cases hfb : isFilter b = true
        case neg =>
          have hfb' : isFilter b = false := by simpa using hfb
          rw [hfb'] at HF2
          have HR := Lib.hid (show parse s = (Sh.none, false) by rw [HP2.out, if_neg hfb])
          clear HP2 hfb hfb'
          go_wp2_with fail
          refine HF2.out.mono ?_
          rintro e w5 ⟨rfl, hb⟩
          have HB5 := Lib.hid (HB3.out.trans (hb.mono HB3.out.size))
          clear hb
          have hz := HST.out w5 HB5.out
          have HB := Lib.hid (HB0.out.trans (HB5.out.mono HB0.out.size))
          have c0 : w5.cell? ⟨w.heap.size, 0, none⟩ = some (.bool false) := cell_of hz rfl
          have c1 : w5.cell? ⟨w.heap.size, 1, none⟩ = some (.string ⟨#[]⟩) := cell_of hz rfl
          have c2 : w5.cell? ⟨w.heap.size, 2, none⟩ = some (.string ⟨#[]⟩) := cell_of hz rfl
          have f0 := free_of hz 0
          have f1 := free_of hz 1
          have f2 := free_of hz 2
          have hp := put3 hz (.bool false) (.string ⟨#[]⟩) (.string ⟨#[]⟩)
          have p0 := cell_of hp (o := 0) (v := .bool false) rfl
          have p1 := cell_of hp (o := 1) (v := .string ⟨#[]⟩) rfl
          have p2 := cell_of hp (o := 2) (v := .string ⟨#[]⟩) rfl
          have HBE := Lib.hid (put3_below HB.out (.bool false) (.string ⟨#[]⟩) (.string ⟨#[]⟩))
          clear hz hp
          go_wp2_with fail
          exact bodyPost_ret (v := .tuple #[.agg #[.bool false, .string ⟨#[]⟩, .string ⟨#[]⟩], .bool false]) (by simp [results, Tryd.results30, go_sem, *]) rfl ⟨by rw [HR.out]; rfl, HBE.out⟩
        case pos =>
          rw [hfb] at HF2
          have HR := Lib.hid (show parse s = (⟨true, x1, Q⟩, true) by rw [HP2.out, if_pos hfb])
          clear HP2 hfb
          go_wp2_with fail
          refine HF2.out.mono ?_
          rintro e w5 ⟨rfl, hb⟩
          have HB5 := Lib.hid (HB3.out.trans (hb.mono HB3.out.size))
          have ci5 := (Same.of_below hb).cell ci
          clear hb ci
          have hz := HST.out w5 HB5.out
          have HB := Lib.hid (HB0.out.trans (HB5.out.mono HB0.out.size))
          have c0 : w5.cell? ⟨w.heap.size, 0, none⟩ = some (.bool false) := cell_of hz rfl
          have c1 : w5.cell? ⟨w.heap.size, 1, none⟩ = some (.string ⟨#[]⟩) := cell_of hz rfl
          have c2 : w5.cell? ⟨w.heap.size, 2, none⟩ = some (.string ⟨#[]⟩) := cell_of hz rfl
          have f0 := free_of hz 0
          have f1 := free_of hz 1
          have f2 := free_of hz 2
          have hp := put3 hz (.bool true) (.string x1) (.string Q)
          have p0 := cell_of hp (o := 0) (v := .bool true) rfl
          have p1 := cell_of hp (o := 1) (v := .string x1) rfl
          have p2 := cell_of hp (o := 2) (v := .string Q) rfl
          have HBE := Lib.hid (put3_below HB.out (.bool true) (.string x1) (.string Q))
          clear hz hp
          go_wp2_with fail
          exact bodyPost_ret (v := .tuple #[.agg #[.bool true, .string x1, .string Q], .bool true]) (by simp [results, Tryd.results30, go_sem, *]) rfl ⟨by rw [HR.out]; rfl, HBE.out⟩
end Go.Proofs.YtnognmnjlnokeaaDoor.TopW
set_option linter.unusedVariables false
set_option linter.unusedSimpArgs false
namespace Go.Proofs.YtnognmnjlnokeaaDoor.TopW
open Go.RowKit Go.Proofs.YtnognmnjlnokeaaDoor.Tc Go.Proofs.YtnognmnjlnokeaaDoor.TopP Go.Proofs.YtnognmnjlnokeaaDoorW.PrintWords

noncomputable def shB : Tc.Kd Tryd.prog 4 Bool := kBool Tryd.underlying4 (by kernel_rfl)
noncomputable def shS : Tc.Kd Tryd.prog 9 ByteArray := kStr Tryd.underlying9 (by kernel_rfl)
set_option maxRecDepth 100000 in
noncomputable def kSh : Tc.Kd Tryd.prog 31 (Bool × ByteArray × ByteArray) := kStruct Tryd.underlying31 rfl (fCons rfl shB (fCons rfl shS (fOne rfl shS))) (by kernel_rfl)
theorem share_open {H : Type} {enc : TypeId × Value → H} {w : World} {base : Nat} {sp : Nat → Bool} {held : Bool} {v : Value} {d : DataW H} {ps : List MemPlace} {B : Prop} (hv : B)
    (h : DataW.Trod enc Tryd.prog w base sp held 31 v d ps) : ∃ x : Sh, v = x.val ∧ True := by
  obtain ⟨fuel, hf⟩ := h
  obtain ⟨⟨a, g, f⟩, hx⟩ := kSh.opens hf
  obtain ⟨c0, cr, hc, rfl, c1, cr2, hcr, ⟨rfl, -⟩, ⟨rfl, -⟩⟩ := hx
  dsimp only at hcr
  subst hcr
  refine ⟨⟨a, g, f⟩, ?_, trivial⟩
  dsimp only at hc
  unfold Sh.val
  dsimp only
  cases v <;> first | (simp [Value.cells] at hc; done) | (simp only [Value.cells] at hc; rw [Value.agg.injEq]; apply Array.ext'; exact hc)
set_option maxRecDepth 100000 in
set_option maxHeartbeats 4000000 in
theorem share_law (w : World) (s : ByteArray) (x : Sh) (hs' : s.size ≤ 140737488351232) (hxx : True) (hE : Env w) : Calls Tryd.prog 7 #[.string s, x.val] w fun e w' => e = .returned (.bool true) ∧ Below w.heap.size w w' := by
  obtain ⟨xs, xg, xf⟩ := x
  have hb0 := alloc_below w (.cells #[.bool xs, .string xg, .string xf] 31)
  have HE0 := Lib.hid (hE.below hb0)
  have HB0 := Lib.hid hb0
  have HZ0 := Lib.hid (heap_alloc_new w (.cells #[.bool xs, .string xg, .string xf] 31))
  have HFW := Lib.hid (few_any ⟨xs, xg, xf⟩ (w.alloc (.cells #[.bool xs, .string xg, .string xf] 31)))
  have HFE := Lib.hid (show few ⟨xs, xg, xf⟩ = (decide (xg.size ≤ 200) && decide (xf.size ≤ 200)) from rfl)
  unfold Sh.val at HFW
  dsimp only at HFW
  unfold Sh.val
  dsimp only
  clear hE hb0 hxx
  by_cases h1 : 300 < s.size
  · have h1' : (300 : Int) < s.size := by omega
    go_enter Tryd.func7, Tryd.ntmps7
    go_wp2_with fail
    refine (sawake_any _ HE0.out).mono ?_
    rintro e wz ⟨rfl, hbz⟩
    have HBZ := Lib.hid (HB0.out.trans (hbz.mono HB0.out.size))
    clear hbz
    go_wp2_with fail
    go_ret
    exact ⟨rfl, HBZ.out⟩
  have h1' : ¬ (300 : Int) < s.size := by omega
  generalize few ⟨xs, xg, xf⟩ = fw at *
  cases fw with
  | false =>
    clear HFE
    go_enter Tryd.func7, Tryd.ntmps7
    go_wp2_with fail
    refine HFW.out.mono ?_
    rintro e w1 ⟨rfl, hb⟩
    have HB1 := Lib.hid (HB0.out.trans (hb.mono HB0.out.size))
    have HE1 := Lib.hid (HE0.out.below hb)
    clear hb
    go_wp2_with fail
    refine (sawake_any _ HE1.out).mono ?_
    rintro e wz ⟨rfl, hbz⟩
    have HBZ := Lib.hid (HB1.out.trans (hbz.mono HB1.out.size))
    clear hbz
    go_wp2_with fail
    go_ret
    exact ⟨rfl, HBZ.out⟩
  | true =>
    have hfe := HFE.out.symm
    rw [Bool.and_eq_true, decide_eq_true_iff, decide_eq_true_iff] at hfe
    obtain ⟨hg, hf⟩ := hfe
    obtain ⟨⟨⟨ys, yg, yf⟩, ok⟩, hy⟩ : ∃ r, parse s = r := ⟨_, rfl⟩
    have HPA := Lib.hid (fun W (hE : Env W) => parse_at s ⟨ys, yg, yf⟩ ok W (by omega) hE hy)
    have hpb := fun W => rparse_any s W (by omega)
    rw [hy] at hpb
    unfold Sh.val at hpb
    dsimp only at hpb
    have HPB := Lib.hid hpb
    clear hpb
    have ht1 := fun W => text_any ⟨xs, xg, xf⟩ W (by show xg.size ≤ 60000; omega) (by show xf.size ≤ 60000; omega)
    have ht2 := fun W => rtext_any ⟨xs, xg, xf⟩ W (by show xg.size ≤ 60000; omega) (by show xf.size ≤ 60000; omega)
    have hk1 := fun W => key_any ⟨xs, xg, xf⟩ W (by show xg.size ≤ 60000; omega) (by show xf.size ≤ 60000; omega)
    have hk2 := fun W => rkey_any ⟨xs, xg, xf⟩ W (by show xg.size ≤ 60000; omega) (by show xf.size ≤ 60000; omega)
    unfold Sh.val at ht1 ht2 hk1 hk2
    dsimp only at ht1 ht2 hk1 hk2
    generalize text ⟨xs, xg, xf⟩ = TT at *
    generalize xg ++ ⟨#[47]⟩ ++ xf = KK at *
    have HT1 := Lib.hid ht1
    have HT2 := Lib.hid ht2
    have HK1 := Lib.hid hk1
    have HK2 := Lib.hid hk2
    have HS1 := Lib.hid (fun W => strat_any s W)
    have HS2 := Lib.hid (fun W => rstrat_any s W)
    have HS3 := Lib.hid (fun W => strat_any xg W)
    have HS4 := Lib.hid (fun W => rstrat_any xg W)
    generalize strat s.data.toList = n1 at *
    generalize strat xg.data.toList = n2 at *
    clear HFE hy ht1 ht2 hk1 hk2
    go_enter Tryd.func7, Tryd.ntmps7
    go_wp2_with fail
    refine HFW.out.mono ?_
    rintro e w1 ⟨rfl, hb⟩
    have HB1 := Lib.hid (HB0.out.trans (hb.mono HB0.out.size))
    have HE1 := Lib.hid (HE0.out.below hb)
    have HZ1 := Lib.hid ((hb.block w.heap.size (lt_of_block HZ0.out)).trans HZ0.out)
    clear hb
    go_wp2_with fail
    refine (HPA.out _ HE1.out).mono ?_
    rintro e w2 ⟨rfl, hb⟩
    have hb2 := hb.trans ((alloc_below w2 (.cells #[.bool ys, .string yg, .string yf] 31)).mono hb.size)
    have HB2 := Lib.hid (HB1.out.trans (hb2.mono HB1.out.size))
    have HE2 := Lib.hid (HE1.out.below hb2)
    have HZ2 := Lib.hid ((hb2.block w.heap.size (lt_of_block HZ1.out)).trans HZ1.out)
    have HY2 := Lib.hid (heap_alloc_new w2 (.cells #[.bool ys, .string yg, .string yf] 31))
    clear hb hb2
    go_wp2_with fail
    refine (HPB.out _).mono ?_
    rintro e w3 ⟨rfl, hb⟩
    have hb3 := hb.trans ((alloc_below w3 (.cells #[.bool ys, .string yg, .string yf] 31)).mono hb.size)
    have HB3 := Lib.hid (HB2.out.trans (hb3.mono HB2.out.size))
    have HE3 := Lib.hid (HE2.out.below hb3)
    have hz3 := (hb3.block w.heap.size (lt_of_block HZ2.out)).trans HZ2.out
    have hy3 := (hb3.block w2.heap.size (lt_of_block HY2.out)).trans HY2.out
    have hv3 := heap_alloc_new w3 (.cells #[.bool ys, .string yg, .string yf] 31)
    obtain ⟨W, hW⟩ : ∃ W, W = w3.alloc (.cells #[.bool ys, .string yg, .string yf] 31) := ⟨_, rfl⟩
    rw [← hW] at HB3 HE3 hz3 hy3 hv3
    have z0 := fun n : Wd (Gr W) => n.cell (cell_of hz3 (o := 0) (v := .bool xs) rfl)
    have z1 := fun n : Wd (Gr W) => n.cell (cell_of hz3 (o := 1) (v := .string xg) rfl)
    have z2 := fun n : Wd (Gr W) => n.cell (cell_of hz3 (o := 2) (v := .string xf) rfl)
    have y0 := fun n : Wd (Gr W) => n.cell (cell_of hy3 (o := 0) (v := .bool ys) rfl)
    have y1 := fun n : Wd (Gr W) => n.cell (cell_of hy3 (o := 1) (v := .string yg) rfl)
    have y2 := fun n : Wd (Gr W) => n.cell (cell_of hy3 (o := 2) (v := .string yf) rfl)
    have v0 := fun n : Wd (Gr W) => n.cell (cell_of hv3 (o := 0) (v := .bool ys) rfl)
    have v1 := fun n : Wd (Gr W) => n.cell (cell_of hv3 (o := 1) (v := .string yg) rfl)
    have v2 := fun n : Wd (Gr W) => n.cell (cell_of hv3 (o := 2) (v := .string yf) rfl)
    have G1 := Lib.hid (fun n : Wd (Gr W) => HT1.out n.w)
    have G2 := Lib.hid (fun n : Wd (Gr W) => HT2.out n.w)
    have G3 := Lib.hid (fun n : Wd (Gr W) => HK1.out n.w)
    have G4 := Lib.hid (fun n : Wd (Gr W) => HK2.out n.w)
    have G5 := Lib.hid (fun n : Wd (Gr W) => HS1.out n.w)
    have G6 := Lib.hid (fun n : Wd (Gr W) => HS2.out n.w)
    have G7 := Lib.hid (fun n : Wd (Gr W) => HS3.out n.w)
    have G8 := Lib.hid (fun n : Wd (Gr W) => HS4.out n.w)
    have HAW := Lib.hid (fun n : Wd (Gr W) => sawake_any n.w (HE3.out.below n.ok))
    clear hz3 hy3 hv3 hb hb3 HT1 HT2 HK1 HK2 HS1 HS2 HS3 HS4 HPA HPB HE0 HE1 HE2 HB0 HB1 HB2 HZ0 HZ1 HZ2 HY2 HFW hg hf
    subst hW
    go_wp2_with fail
    refine wp_region_cls (Gr _) (gr_drew _) (by kernel_rfl) (by kernel_rfl) ?_
    go_big_quiet_step (fail)
    iterate 30 (go_big_quiet_step ((first | (go_at_call 31; exact cls_call (G1.out _)) | (go_at_call 32; exact cls_call (G2.out _)) | (go_at_call 33; exact cls_call (G3.out _)) | (go_at_call 34; exact cls_call (G4.out _)) | (go_at_call 35; exact cls_same (G5.out _)) | (go_at_call 36; exact cls_call (G6.out _)))))
    repeat (go_big_quiet_step ((first | (go_at_call 35; exact cls_same (G7.out _)) | (go_at_call 36; exact cls_call (G8.out _)) | (go_at_call 28; exact cls_call (HAW.out _)))))
    refine wpQuiet_nil ?_
    rintro _ ⟨⟨wq, hqq⟩, rfl⟩
    have HQ := Lib.hid (HB3.out.trans (Below.mono hqq HB3.out.size))
    clear hqq
    go_wp2_with fail
    go_ret
    exact ⟨rfl, HQ.out⟩
end Go.Proofs.YtnognmnjlnokeaaDoor.TopW
