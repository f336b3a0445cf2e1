/- Shared filters: what Parse, Text, Key and Strategy come to. -/
import Derived.Test.YtnognmnjlnokeaaDoorTopZ
set_option linter.unusedVariables false
set_option linter.unusedSimpArgs false
namespace Go.Proofs.YtnognmnjlnokeaaDoor.TopW
open Go.RowKit Go.Proofs.YtnognmnjlnokeaaDoor.Tc Go.Proofs.YtnognmnjlnokeaaDoor.TopP

structure Sh where
  shared : Bool
  group : ByteArray
  filter : ByteArray
def Sh.val (x : Sh) : Value := .agg #[.bool x.shared, .string x.group, .string x.filter]
def Sh.none : Sh := ⟨false, ⟨#[]⟩, ⟨#[]⟩⟩
def root : List UInt8 := [36, 115, 104, 97, 114, 101, 47]
def ofL (l : List UInt8) : ByteArray := ⟨l.toArray⟩
theorem ofL_list (l : List UInt8) : (ofL l).data.toList = l := rfl
theorem ofL_self (s : ByteArray) : ofL s.data.toList = s := by apply ByteArray.ext; simp [ofL]
/-- The group and the filter. -/
def part (l : List UInt8) : List UInt8 × List UInt8 := ((Lib.cut l [47]).1, (Lib.cut l [47]).2.1)
def parse (s : ByteArray) : Sh × Bool :=
  if isFilter s.data.toList = true then
    if Lib.hasPrefix s.data.toList root = true then
      if (isName (part (s.data.toList.drop 7)).1 && isFilter (part (s.data.toList.drop 7)).2) = true then (⟨true, ofL (part (s.data.toList.drop 7)).1, ofL (part (s.data.toList.drop 7)).2⟩, true) else (Sh.none, false)
    else (⟨false, ⟨#[]⟩, s⟩, true)
  else (Sh.none, false)
theorem cut_no {l : List UInt8} (h : 47 ∉ l) : Lib.cut l [47] = (l, [], false) := by
  unfold Lib.cut
  rw [Lib.index_one]
  rw [if_neg]
  intro h0
  obtain ⟨i, hi⟩ := Int.eq_ofNat_of_zero_le h0
  exact h (List.mem_of_getElem? (Lib.indexByte_some hi).1)
theorem cut_yes {a : List UInt8} (b : List UInt8) (h : 47 ∉ a) : Lib.cut (a ++ 47 :: b) [47] = (a, b, true) := by
  have hi : Lib.indexByte (a ++ 47 :: b) 47 = (a.length : Nat) := by
    have hg := Lib.indexByte_ge (a ++ 47 :: b) 47
    by_cases h1 : Lib.indexByte (a ++ 47 :: b) 47 = -1
    · exact absurd (by simp) (Lib.indexByte_none h1 a.length)
    · obtain ⟨i, hi⟩ : ∃ i : Nat, Lib.indexByte (a ++ 47 :: b) 47 = i := ⟨(Lib.indexByte (a ++ 47 :: b) 47).toNat, by omega⟩
      obtain ⟨h2, h3⟩ := Lib.indexByte_some hi
      rcases Nat.lt_trichotomy i a.length with hl | hl | hl
      · rw [List.getElem?_append_left hl] at h2
        exact absurd (List.mem_of_getElem? h2) h
      · rw [hi, hl]
      · exact absurd (by simp) (h3 a.length hl)
  unfold Lib.cut
  rw [Lib.index_one, hi, if_pos (by omega)]
  simp
theorem put3 {w : World} {b : Nat} {a0 a1 a2 : Value} {t : TypeId} (h : w.heap[b]? = some (.cells #[a0, a1, a2] t (0, 0))) (u0 u1 u2 : Value) :
    (((w.setCell ⟨b, 0, none⟩ u0).setCell ⟨b, 1, none⟩ u1).setCell ⟨b, 2, none⟩ u2).heap[b]? = some (.cells #[u0, u1, u2] t (0, 0)) := set_of (set_of (set_of h 0 u0) 1 u1) 2 u2
theorem put3_below {w w2 : World} (h : Below w.heap.size w w2) (u0 u1 u2 : Value) :
    Below w.heap.size w (((w2.setCell ⟨w.heap.size, 0, none⟩ u0).setCell ⟨w.heap.size, 1, none⟩ u1).setCell ⟨w.heap.size, 2, none⟩ u2) :=
  ((((Tch.of_below (S := []) h).setCell (p := ⟨w.heap.size, 0, none⟩) (.inr (Nat.le_refl _)) u0).setCell (p := ⟨w.heap.size, 1, none⟩) (.inr (Nat.le_refl _)) u1).setCell (p := ⟨w.heap.size, 2, none⟩) (.inr (Nat.le_refl _)) u2).below (Nat.le_refl _) (by simp)
theorem alloc_below (w : World) (o : Obj) : Below w.heap.size w (w.alloc o) := (Below.refl _ _).alloc (Nat.le_refl _) _
set_option maxRecDepth 100000 in
set_option maxHeartbeats 2000000 in
theorem parse_any (s : ByteArray) (w : World) (hs : s.size ≤ 60000) (hE : Env w) : Calls Tryd.prog 29 #[.string s] w fun e w' => e = .returned (.tuple #[(parse s).1.val, .bool (parse s).2]) ∧ Below w.heap.size w w' := by
  have HP := Lib.hid (show parse s = if isFilter s.data.toList = true then
    if Lib.hasPrefix s.data.toList root = true then
      if (isName (part (s.data.toList.drop 7)).1 && isFilter (part (s.data.toList.drop 7)).2) = true then (⟨true, ofL (part (s.data.toList.drop 7)).1, ofL (part (s.data.toList.drop 7)).2⟩, true) else (Sh.none, false)
    else (⟨false, ⟨#[]⟩, s⟩, true)
    else (Sh.none, false) from rfl)
  have hb0 := alloc_below w (.cells #[.bool false, .string ⟨#[]⟩, .string ⟨#[]⟩] 31)
  have HE0 := Lib.hid (hE.below hb0)
  have HF := Lib.hid (filter_any s _ hs (hE.below hb0))
  have HB0 := Lib.hid hb0
  have HZ := Lib.hid (heap_alloc_new w (.cells #[.bool false, .string ⟨#[]⟩, .string ⟨#[]⟩] 31))
  have hzs : (w.alloc (.cells #[.bool false, .string ⟨#[]⟩, .string ⟨#[]⟩] 31)).heap.size = w.heap.size + 1 := by simp
  have HZS := Lib.hid hzs
  -- storing the answer
  have HST := Lib.hid (show ∀ w2, Below (w.alloc (.cells #[.bool false, .string ⟨#[]⟩, .string ⟨#[]⟩] 31)).heap.size (w.alloc (.cells #[.bool false, .string ⟨#[]⟩, .string ⟨#[]⟩] 31)) w2 → w2.heap[w.heap.size]? = some (.cells #[.bool false, .string ⟨#[]⟩, .string ⟨#[]⟩] 31 (0, 0)) by
    intro w2 hb
    exact (hb.block _ (by rw [HZS.out]; omega)).trans HZ.out)
  clear hb0 hE hzs
  cases hf : isFilter s.data.toList with
  | false =>
    rw [hf] at HF
    have HR := Lib.hid (show parse s = (Sh.none, false) by rw [HP.out, hf]; rfl)
    clear hf HP
    go_enter Tryd.func29, Tryd.ntmps29
    go_wp2_with fail
    refine HF.out.mono ?_
    rintro e w2 ⟨rfl, hb⟩
    have hz := HST.out w2 hb
    have HB := Lib.hid (HB0.out.trans (hb.mono HB0.out.size))
    have c0 : w2.cell? ⟨w.heap.size, 0, none⟩ = some (.bool false) := cell_of hz rfl
    have c1 : w2.cell? ⟨w.heap.size, 1, none⟩ = some (.string ⟨#[]⟩) := cell_of hz rfl
    have c2 : w2.cell? ⟨w.heap.size, 2, none⟩ = some (.string ⟨#[]⟩) := cell_of hz rfl
    have f0 := free_of hz 0
    have f1 := free_of hz 1
    have f2 := free_of hz 2
    have hp := put3 hz (.bool false) (.string ⟨#[]⟩) (.string ⟨#[]⟩)
    have p0 := cell_of hp (o := 0) (v := .bool false) rfl
    have p1 := cell_of hp (o := 1) (v := .string ⟨#[]⟩) rfl
    have p2 := cell_of hp (o := 2) (v := .string ⟨#[]⟩) rfl
    have HBE := Lib.hid (put3_below HB.out (.bool false) (.string ⟨#[]⟩) (.string ⟨#[]⟩))
    clear hb hz hp
    go_wp2_with fail
    exact bodyPost_ret (v := .tuple #[.agg #[.bool false, .string ⟨#[]⟩, .string ⟨#[]⟩], .bool false]) (by simp [results, Tryd.results29, go_sem, *]) rfl ⟨by rw [HR.out]; rfl, HBE.out⟩
  | true =>
    rw [hf] at HF
    have HCP := Lib.hid (fun W => Tryd.strings_CutPrefix s ⟨#[36, 115, 104, 97, 114, 101, 47]⟩ W)
    have HPX := Lib.hid (show Lib.hasPrefix s.data.toList (⟨#[36, 115, 104, 97, 114, 101, 47]⟩ : ByteArray).data.toList = Lib.hasPrefix s.data.toList root from rfl)
    cases hx : Lib.hasPrefix s.data.toList root with
    | false =>
      have HR := Lib.hid (show parse s = (⟨false, ⟨#[]⟩, s⟩, true) by rw [HP.out, hf, hx]; rfl)
      have HX := Lib.hid hx
      clear hf hx HP
      go_enter Tryd.func29, Tryd.ntmps29
      go_wp2_with fail
      refine HF.out.mono ?_
      rintro e w2 ⟨rfl, hb⟩
      have hz := HST.out w2 hb
      have HB := Lib.hid (HB0.out.trans (hb.mono HB0.out.size))
      have c0 : w2.cell? ⟨w.heap.size, 0, none⟩ = some (.bool false) := cell_of hz rfl
      have c1 : w2.cell? ⟨w.heap.size, 1, none⟩ = some (.string ⟨#[]⟩) := cell_of hz rfl
      have c2 : w2.cell? ⟨w.heap.size, 2, none⟩ = some (.string ⟨#[]⟩) := cell_of hz rfl
      have f0 := free_of hz 0
      have f1 := free_of hz 1
      have f2 := free_of hz 2
      have hp := put3 hz (.bool false) (.string ⟨#[]⟩) (.string s)
      have p0 := cell_of hp (o := 0) (v := .bool false) rfl
      have p1 := cell_of hp (o := 1) (v := .string ⟨#[]⟩) rfl
      have p2 := cell_of hp (o := 2) (v := .string s) rfl
      have HBE := Lib.hid (put3_below HB.out (.bool false) (.string ⟨#[]⟩) (.string s))
      clear hb hz hp
      go_wp2_with fail
      refine (HCP.out w2).mono ?_
      rw [HPX.out, HX.out]
      rintro e w3 ⟨rfl, rfl⟩
      go_wp2_with fail
      exact bodyPost_ret (v := .tuple #[.agg #[.bool false, .string ⟨#[]⟩, .string s], .bool true]) (by simp [results, Tryd.results29, go_sem, *]) rfl ⟨by rw [HR.out]; rfl, HBE.out⟩
    | true =>
      have HX := Lib.hid hx
      have hsz : s.data.toList.length = s.size := by simp
      obtain ⟨R, hR⟩ : ∃ R, R = ofL (s.data.toList.drop 7) := ⟨_, rfl⟩
      have hRl : R.data.toList = s.data.toList.drop 7 := by rw [hR]; rfl
      have hRs : R.size ≤ s.size := by rw [len_size hRl, List.length_drop]; omega
      have HTR := Lib.hid (show (⟨(Lib.trimPrefix s.data.toList (⟨#[36, 115, 104, 97, 114, 101, 47]⟩ : ByteArray).data.toList).toArray⟩ : ByteArray) = R by
        rw [hR]; unfold Lib.trimPrefix; rw [HPX.out, hx]; rfl)
      obtain ⟨G, hG⟩ : ∃ G, G = ofL (part (s.data.toList.drop 7)).1 := ⟨_, rfl⟩
      obtain ⟨F, hF⟩ : ∃ F, F = ofL (part (s.data.toList.drop 7)).2 := ⟨_, rfl⟩
      have hcl : (Lib.cut R.data.toList [47]).1.length ≤ R.size ∧ (Lib.cut R.data.toList [47]).2.1.length ≤ R.size := by
        have hrz : R.data.toList.length = R.size := by simp
        unfold Lib.cut
        by_cases h0 : 0 ≤ Lib.index R.data.toList [47]
        · rw [if_pos h0]
          constructor
          · simp only [List.length_take]; omega
          · simp only [List.length_drop]; omega
        · rw [if_neg h0]
          exact ⟨by simp only [hrz]; exact Nat.le_refl _, by simp⟩
      have hGs : G.size ≤ 60000 := by rw [hG, len_size (ofL_list _)]; show (Lib.cut (s.data.toList.drop 7) [47]).1.length ≤ 60000; rw [← hRl]; omega
      have hFs : F.size ≤ 60000 := by rw [hF, len_size (ofL_list _)]; show (Lib.cut (s.data.toList.drop 7) [47]).2.1.length ≤ 60000; rw [← hRl]; omega
      have HCG := Lib.hid (show (⟨(Lib.cut R.data.toList (⟨#[47]⟩ : ByteArray).data.toList).1.toArray⟩ : ByteArray) = G by rw [hG, hRl]; rfl)
      have HCF := Lib.hid (show (⟨(Lib.cut R.data.toList (⟨#[47]⟩ : ByteArray).data.toList).2.1.toArray⟩ : ByteArray) = F by rw [hF, hRl]; rfl)
      have HR0 := Lib.hid (show parse s = if (isName G.data.toList && isFilter F.data.toList) = true then (⟨true, G, F⟩, true) else (Sh.none, false) by
        rw [HP.out, hf, hx, hG, hF]; rfl)
      have HNA := Lib.hid (fun W (hE : Env W) => name_any G W hGs hE)
      have HFA := Lib.hid (fun W (hE : Env W) => filter_any F W hFs hE)
      clear hf hx HP hR hRl hG hF hcl hGs hFs hsz
      go_enter Tryd.func29, Tryd.ntmps29
      go_wp2_with fail
      refine HF.out.mono ?_
      rintro e w2 ⟨rfl, hb⟩
      have HB2 := Lib.hid hb
      clear hb
      go_wp2_with fail
      refine (HCP.out w2).mono ?_
      rw [HPX.out, HX.out, HTR.out]
      rintro e w3 ⟨rfl, hw3⟩
      obtain ⟨m, hm⟩ := (HE0.out.below HB2.out).max
      have HCUT := Lib.hid (Tryd.strings_Cut R ⟨#[47]⟩ m w2 (by omega) hm)
      subst hw3
      clear hm
      go_wp2_with fail
      refine HCUT.out.mono ?_
      rw [HCG.out, HCF.out]
      rintro e w4 ⟨rfl, hd⟩
      have HB4 := Lib.hid (HB2.out.trans ((Dr.below hd).mono HB2.out.size))
      have HN4 := Lib.hid (HNA.out w4 (HE0.out.below (HB2.out.trans ((Dr.below hd).mono HB2.out.size))))
      clear hd HCUT
      go_wp2_with fail
      refine HN4.out.mono ?_
      rintro e w5 ⟨rfl, hb⟩
      have HB5 := Lib.hid (HB4.out.trans (hb.mono HB4.out.size))
      have HF5 := Lib.hid (HFA.out w5 (HE0.out.below (HB4.out.trans (hb.mono HB4.out.size))))
      clear hb HN4
      cases hn : isName G.data.toList with
      | false =>
        have HR := Lib.hid (show parse s = (Sh.none, false) by rw [HR0.out, hn]; rfl)
        clear hn
        have hz := HST.out w5 HB5.out
        have HB := Lib.hid (HB0.out.trans (HB5.out.mono HB0.out.size))
        have c0 : w5.cell? ⟨w.heap.size, 0, none⟩ = some (.bool false) := cell_of hz rfl
        have c1 : w5.cell? ⟨w.heap.size, 1, none⟩ = some (.string ⟨#[]⟩) := cell_of hz rfl
        have c2 : w5.cell? ⟨w.heap.size, 2, none⟩ = some (.string ⟨#[]⟩) := cell_of hz rfl
        have f0 := free_of hz 0
        have f1 := free_of hz 1
        have f2 := free_of hz 2
        have hp := put3 hz (.bool false) (.string ⟨#[]⟩) (.string ⟨#[]⟩)
        have p0 := cell_of hp (o := 0) (v := .bool false) rfl
        have p1 := cell_of hp (o := 1) (v := .string ⟨#[]⟩) rfl
        have p2 := cell_of hp (o := 2) (v := .string ⟨#[]⟩) rfl
        have HBE := Lib.hid (put3_below HB.out (.bool false) (.string ⟨#[]⟩) (.string ⟨#[]⟩))
        clear hz hp
        go_wp2_with fail
        exact bodyPost_ret (v := .tuple #[.agg #[.bool false, .string ⟨#[]⟩, .string ⟨#[]⟩], .bool false]) (by simp [results, Tryd.results29, go_sem, *]) rfl ⟨by rw [HR.out]; rfl, HBE.out⟩
      | true =>
        cases hfl : isFilter F.data.toList with
        | false =>
          have HR := Lib.hid (show parse s = (Sh.none, false) by rw [HR0.out, hn, hfl]; rfl)
          rw [hfl] at HF5
          clear hn hfl
          go_wp2_with fail
          refine HF5.out.mono ?_
          rintro e w6 ⟨rfl, hb⟩
          have HB6 := Lib.hid (HB5.out.trans (hb.mono HB5.out.size))
          clear hb HF5
          have hz := HST.out w6 HB6.out
          have HB := Lib.hid (HB0.out.trans (HB6.out.mono HB0.out.size))
          have c0 : w6.cell? ⟨w.heap.size, 0, none⟩ = some (.bool false) := cell_of hz rfl
          have c1 : w6.cell? ⟨w.heap.size, 1, none⟩ = some (.string ⟨#[]⟩) := cell_of hz rfl
          have c2 : w6.cell? ⟨w.heap.size, 2, none⟩ = some (.string ⟨#[]⟩) := cell_of hz rfl
          have f0 := free_of hz 0
          have f1 := free_of hz 1
          have f2 := free_of hz 2
          have hp := put3 hz (.bool false) (.string ⟨#[]⟩) (.string ⟨#[]⟩)
          have p0 := cell_of hp (o := 0) (v := .bool false) rfl
          have p1 := cell_of hp (o := 1) (v := .string ⟨#[]⟩) rfl
          have p2 := cell_of hp (o := 2) (v := .string ⟨#[]⟩) rfl
          have HBE := Lib.hid (put3_below HB.out (.bool false) (.string ⟨#[]⟩) (.string ⟨#[]⟩))
          clear hz hp
          go_wp2_with fail
          exact bodyPost_ret (v := .tuple #[.agg #[.bool false, .string ⟨#[]⟩, .string ⟨#[]⟩], .bool false]) (by simp [results, Tryd.results29, go_sem, *]) rfl ⟨by rw [HR.out]; rfl, HBE.out⟩
        | true =>
          have HR := Lib.hid (show parse s = (⟨true, G, F⟩, true) by rw [HR0.out, hn, hfl]; rfl)
          rw [hfl] at HF5
          clear hn hfl
          go_wp2_with fail
          refine HF5.out.mono ?_
          rintro e w6 ⟨rfl, hb⟩
          have HB6 := Lib.hid (HB5.out.trans (hb.mono HB5.out.size))
          clear hb HF5
          have hz := HST.out w6 HB6.out
          have HB := Lib.hid (HB0.out.trans (HB6.out.mono HB0.out.size))
          have c0 : w6.cell? ⟨w.heap.size, 0, none⟩ = some (.bool false) := cell_of hz rfl
          have c1 : w6.cell? ⟨w.heap.size, 1, none⟩ = some (.string ⟨#[]⟩) := cell_of hz rfl
          have c2 : w6.cell? ⟨w.heap.size, 2, none⟩ = some (.string ⟨#[]⟩) := cell_of hz rfl
          have f0 := free_of hz 0
          have f1 := free_of hz 1
          have f2 := free_of hz 2
          have hp := put3 hz (.bool true) (.string G) (.string F)
          have p0 := cell_of hp (o := 0) (v := .bool true) rfl
          have p1 := cell_of hp (o := 1) (v := .string G) rfl
          have p2 := cell_of hp (o := 2) (v := .string F) rfl
          have HBE := Lib.hid (put3_below HB.out (.bool true) (.string G) (.string F))
          clear hz hp
          go_wp2_with fail
          exact bodyPost_ret (v := .tuple #[.agg #[.bool true, .string G, .string F], .bool true]) (by simp [results, Tryd.results29, go_sem, *]) rfl ⟨by rw [HR.out]; rfl, HBE.out⟩
theorem key_any (x : Sh) (w : World) (h : x.group.size ≤ 60000) (h2 : x.filter.size ≤ 60000) : Calls Tryd.prog 33 #[x.val] w fun e w' => e = .returned (.string (x.group ++ ⟨#[47]⟩ ++ x.filter)) ∧ Below w.heap.size w w' := by
  obtain ⟨a, g, f⟩ := x
  dsimp only at h h2
  have hgs : (g ++ (⟨#[47]⟩ : ByteArray)).size = g.size + 1 := by rw [ByteArray.size_append]; rfl
  have HB := Lib.hid (alloc_below w (.cells #[.bool a, .string g, .string f] 31))
  unfold Sh.val
  go_enter Tryd.func33, Tryd.ntmps33
  go_wp2
  go_ret
  exact ⟨rfl, HB.out⟩
def text (x : Sh) : ByteArray := if x.shared = true then ofL root ++ (x.group ++ ⟨#[47]⟩ ++ x.filter) else x.filter
theorem text_any (x : Sh) (w : World) (h : x.group.size ≤ 60000) (h2 : x.filter.size ≤ 60000) : Calls Tryd.prog 31 #[x.val] w fun e w' => e = .returned (.string (text x)) ∧ Below w.heap.size w w' := by
  obtain ⟨a, g, f⟩ := x
  have hb := alloc_below w (.cells #[.bool a, .string g, .string f] 31)
  have HB := Lib.hid hb
  have HK := Lib.hid (key_any ⟨a, g, f⟩ (w.alloc (.cells #[.bool a, .string g, .string f] 31)) h h2)
  have hks : (g ++ (⟨#[47]⟩ : ByteArray) ++ f).size ≤ 120001 := by rw [ByteArray.size_append, ByteArray.size_append, show (⟨#[47]⟩ : ByteArray).size = 1 from rfl]; simp only at h h2; omega
  have HT := Lib.hid (show text ⟨a, g, f⟩ = if a = true then ofL root ++ (g ++ ⟨#[47]⟩ ++ f) else f from rfl)
  generalize text ⟨a, g, f⟩ = T at *
  simp only at HK
  generalize (g ++ (⟨#[47]⟩ : ByteArray) ++ f) = K at *
  clear hb
  unfold Sh.val at *
  cases a with
  | true =>
    go_enter Tryd.func31, Tryd.ntmps31
    go_wp2_with fail
    refine HK.out.mono ?_
    rintro e w2 ⟨rfl, hb⟩
    have HB2 := Lib.hid (HB.out.trans (hb.mono HB.out.size))
    clear hb
    go_wp2_with fail
    go_ret
    exact ⟨by rw [HT.out]; rfl, HB2.out⟩
  | false =>
    go_enter Tryd.func31, Tryd.ntmps31
    go_wp2_with fail
    go_ret
    exact ⟨by rw [HT.out]; rfl, HB.out⟩
/-- A group's strategy. -/
def strat (l : List UInt8) : Int := if l.take 2 = [115, 45] then 2 else if l.take 2 = [104, 45] then 3 else if l.take 2 = [108, 45] then 4 else if l.take 2 = [120, 45] then 5 else 1
set_option maxRecDepth 100000 in
set_option maxHeartbeats 2000000 in
theorem strat_any (s : ByteArray) (w : World) : Calls Tryd.prog 35 #[.string s] w fun e w' => e = .returned (.int .i64 (strat s.data.toList)) ∧ w = w' := by
  have hsz := size_list s
  by_cases h2 : s.size < 2
  · have HR := Lib.hid (show strat s.data.toList = 1 by
      have key : ∀ a b : UInt8, s.data.toList.take 2 ≠ [a, b] := by
        intro a b e
        have := congrArg List.length e
        rw [List.length_take, hsz] at this
        simp at this
        omega
      unfold strat
      rw [if_neg (key _ _), if_neg (key _ _), if_neg (key _ _), if_neg (key _ _)])
    clear hsz
    go_enter Tryd.func35, Tryd.ntmps35
    go_wp2
    go_ret
    exact ⟨by rw [HR.out]; rfl, rfl⟩
  · have hx : (s.extract 0 2).data.toList = s.data.toList.take 2 := by rw [ByteArray.data_extract, Array.toList_extract, List.extract_eq_take_drop]; simp
    obtain ⟨t, ht⟩ : ∃ t, t = s.extract 0 2 := ⟨_, rfl⟩
    rw [← ht] at hx
    have he := ht.symm
    have h2' : (2 : Int) ≤ s.size := by omega
    have HR := Lib.hid (show strat s.data.toList = if t.data.toList = [115, 45] then 2 else if t.data.toList = [104, 45] then 3 else if t.data.toList = [108, 45] then 4 else if t.data.toList = [120, 45] then 5 else 1 by unfold strat; rw [hx])
    have e1 := str_is t [115, 45]
    have e2 := str_is t [104, 45]
    have e3 := str_is t [108, 45]
    have e4 := str_is t [120, 45]
    clear hx ht hsz
    by_cases k1 : t.data.toList = [115, 45]
    · have HR2 := Lib.hid (show strat s.data.toList = 2 by rw [HR.out, if_pos k1])
      rw [decide_eq_true k1] at e1
      clear k1 e2 e3 e4
      go_enter Tryd.func35, Tryd.ntmps35
      go_wp2
      go_ret
      exact ⟨by rw [HR2.out]; rfl, rfl⟩
    rw [decide_eq_false k1] at e1
    by_cases k2 : t.data.toList = [104, 45]
    · have HR2 := Lib.hid (show strat s.data.toList = 3 by rw [HR.out, if_neg k1, if_pos k2])
      rw [decide_eq_true k2] at e2
      clear k1 k2 e3 e4
      go_enter Tryd.func35, Tryd.ntmps35
      go_wp2
      go_ret
      exact ⟨by rw [HR2.out]; rfl, rfl⟩
    rw [decide_eq_false k2] at e2
    by_cases k3 : t.data.toList = [108, 45]
    · have HR2 := Lib.hid (show strat s.data.toList = 4 by rw [HR.out, if_neg k1, if_neg k2, if_pos k3])
      rw [decide_eq_true k3] at e3
      clear k1 k2 k3 e4
      go_enter Tryd.func35, Tryd.ntmps35
      go_wp2
      go_ret
      exact ⟨by rw [HR2.out]; rfl, rfl⟩
    rw [decide_eq_false k3] at e3
    by_cases k4 : t.data.toList = [120, 45]
    · have HR2 := Lib.hid (show strat s.data.toList = 5 by rw [HR.out, if_neg k1, if_neg k2, if_neg k3, if_pos k4])
      rw [decide_eq_true k4] at e4
      clear k1 k2 k3 k4
      go_enter Tryd.func35, Tryd.ntmps35
      go_wp2
      go_ret
      exact ⟨by rw [HR2.out]; rfl, rfl⟩
    rw [decide_eq_false k4] at e4
    have HR2 := Lib.hid (show strat s.data.toList = 1 by rw [HR.out, if_neg k1, if_neg k2, if_neg k3, if_neg k4])
    clear k1 k2 k3 k4
    go_enter Tryd.func35, Tryd.ntmps35
    go_wp2
    go_ret
    exact ⟨by rw [HR2.out]; rfl, rfl⟩
end Go.Proofs.YtnognmnjlnokeaaDoor.TopW
